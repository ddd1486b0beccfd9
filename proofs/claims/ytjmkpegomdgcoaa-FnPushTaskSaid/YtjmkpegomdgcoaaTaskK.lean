/- A task is pushed: the program's answer. Conditions: none. -/
import Derived.Test.YtjmkpegomdgcoaaTaskJ
namespace Go.Proofs.Ytjmkpegomdgcoaa
open Go.RowKit Go.Lib Go.Joins
set_option linter.unusedVariables false
set_option linter.unusedSimpArgs false
theorem flat_set_rank {ts : List Tk} {k : Nat} {v : Int} (hk : k < ts.length) : (flat ts).set (k * 3 + 1) v = flat (ts.take k ++ ⟨(tk ts k).id, v, (tk ts k).age⟩ :: ts.drop (k + 1)) := by
  induction ts generalizing k with
  | nil => simp at hk
  | cons t r ih =>
    cases k with
    | zero => rfl
    | succ k =>
      rw [flat_cons, show (k + 1) * 3 + 1 = k * 3 + 1 + 1 + 1 + 1 by omega, List.set_cons_succ, List.set_cons_succ, List.set_cons_succ, ih (by simpa using hk)]
      rfl
theorem flat_put {ts : List Tk} {k : Nat} {x y z : Int} : (flat ts).take (k * 3) ++ ([x, y, z] ++ (flat ts).drop (k * 3)) = flat (ts.take k ++ ⟨x, y, z⟩ :: ts.drop k) := by
  rw [flat_append, flat_cons, flat_take, flat_drop]; rfl
theorem clipT_any (a : Option Addr) (n c : Nat) (w : World) (hc : n ≤ c) (hm : c ≤ 9223372036854775807) :
    Calls Try.prog 35 #[.slice a n c] w fun e w' => e = .returned (.slice a n n) ∧ w = w' := by
  go_enter Try.func35, Try.ntmps35
  go_wp2
  go_ret
  exact ⟨rfl, rfl⟩
def PushI (ts : List Tk) (id rank : Int) (w : World) (e : Ending) (w' : World) : Prop :=
  ∃ (A : Option Addr) (m c : Nat), e = .returned (.tuple #[.slice A m c, .bool (pushOk ts id rank)]) ∧ m ≤ c ∧ c ≤ 9223372036854775807 ∧ m ≤ 10 ∧ Row 39 w' w.heap.size w'.heap.size A (m * 3) (flat (pushS ts id rank)) ∧ Below w.heap.size w w'
theorem pushI_no {ts : List Tk} {id rank : Int} {w w' : World} (h : pushOk ts id rank = false) (hb : Below w.heap.size w w') : PushI ts id rank w (.returned (.tuple #[.slice none 0 0, .bool false])) w' :=
  ⟨none, 0, 0, by rw [h], by omega, by omega, by omega, by rw [pushS, if_neg (by rw [h]; simp)]; exact ⟨rfl, fun h => by omega⟩, hb⟩
theorem pushI_yes {ts us : List Tk} {id rank : Int} {w w' : World} {A : Option Addr} {m c : Nat} (h : pushOk ts id rank = true) (hu : pushL id rank ts = us) (hm : m ≤ 10) (ho : Own 39 3 w' w.heap.size (.slice A m c) m (flat us)) (hb : Below w.heap.size w w') :
    PushI ts id rank w (.returned (.tuple #[.slice A m m, .bool true])) w' := by
  obtain ⟨A', c', e, h1, h2, hr⟩ := ho.form
  injection e with e1 e2 e3
  subst e1 e3
  exact ⟨A, m, m, by rw [h], Nat.le_refl _, by omega, hm, by rw [pushS, if_pos h, hu]; exact hr, hb⟩
set_option maxHeartbeats 4000000 in
theorem implPush_any (B : Nat) (a : Option Addr) (n c : Nat) (ts : List Tk) (id rank : Int) (w : World) (hA : Ints .i64 w B a (n * 3) (flat ts)) (hB : B ≤ w.heap.size) (hn : n ≤ 1048577) :
    Calls Try.prog 16 #[.slice a n c, .int .i64 id, .int .i64 rank] w (PushI ts id rank w) := by
  have HC := hide (implValid_any B a n c ts w hA hB hn)
  have HA := hide (fun W (h : Below w.heap.size w W) => hA.below h hB)
  have hl := hide (show ts.length = n by have := hA.1; rw [flat_len] at this; omega)
  have HD := hide (show pushOk ts id rank = (validT ts && (inR id 0 99 && (inR rank 0 50 && decide ((pushL id rank ts).length ≤ 10)))) from rfl)
  clear hA
  cases h0 : validT ts
  case false =>
    have hs := hide (show pushOk ts id rank = false by rw [HD.out, h0]; rfl)
    rw [h0] at HC
    go_enter Try.func16, Try.ntmps16
    go_wp2_with (go_at_call 12; refine HC.out.mono ?_; rintro e w1 ⟨rfl, hb⟩; have HB := hide hb; clear hb)
    go_ret2
    exact pushI_no hs.out HB.out
  case true =>
    rw [h0] at HC
    cases h1 : inR id 0 99
    case false =>
      have hs := hide (show pushOk ts id rank = false by rw [HD.out, h0, h1]; rfl)
      go_enter Try.func16, Try.ntmps16
      go_wp2_with (first | (go_at_call 12; refine HC.out.mono ?_; rintro e w1 ⟨rfl, hb⟩; have HB := hide hb; clear hb) | (go_at_call 23; with_reducible refine (idOk_is h1 _).mono ?_; rintro e w' ⟨rfl, rfl⟩))
      go_ret2
      exact pushI_no hs.out HB.out
    case true =>
      cases h2 : inR rank 0 50
      case false =>
        have hs := hide (show pushOk ts id rank = false by rw [HD.out, h0, h1, h2]; rfl)
        go_enter Try.func16, Try.ntmps16
        go_wp2_with (first | (go_at_call 12; refine HC.out.mono ?_; rintro e w1 ⟨rfl, hb⟩; have HB := hide hb; clear hb) | (go_at_call 23; with_reducible refine (idOk_is h1 _).mono ?_; rintro e w' ⟨rfl, rfl⟩) | (go_at_call 24; with_reducible refine (rankOk_is h2 _).mono ?_; rintro e w' ⟨rfl, rfl⟩))
        go_ret2
        exact pushI_no hs.out HB.out
      case true =>
        have hv := validT_iff.1 h0
        have hn10 : n ≤ 10 := by rw [← hl.out]; exact hv.2.2
        have HASC := hide hv.2.1
        have HD2 := hide (show pushOk ts id rank = decide ((pushL id rank ts).length ≤ 10) by rw [HD.out, h0, h1, h2]; rfl)
        clear hv HD
        go_enter Try.func16, Try.ntmps16
        go_wp2_with (first | (go_at_call 12; refine HC.out.mono ?_; rintro e w1 ⟨rfl, hb⟩; have HB1 := hide hb; have hz1 := hb.size; clear hb) | (go_at_call 23; with_reducible refine (idOk_is h1 _).mono ?_; rintro e w' ⟨rfl, rfl⟩) | (go_at_call 24; with_reducible refine (rankOk_is h2 _).mono ?_; rintro e w' ⟨rfl, rfl⟩))
        clear HC h0 h1 h2
        refine (clone_any B a n c (flat ts) _ (HA.out _ HB1.out) (by omega) (by omega)).mono ?_
        rintro e W2 ⟨A1, c1, rfl, ho, hb⟩
        have ho := ho.mono hz1
        have HB2 := hide (HB1.out.trans (hb.mono hz1))
        have hz2 := hb.size
        obtain ⟨A', c', e1, hc1, hc2, hrow⟩ := ho.form
        injection e1 with e1 e2 e3
        subst e1 e3
        have HI := hide hrow.ints
        have HO := hide ho
        clear hb ho hrow HB1
        go_wp2_with fail
        refine (bsearch_any W2.heap.size A1 n c1 ts id W2 HI.out (Nat.le_refl _) (by omega) HASC.out).mono ?_
        rintro e W3 ⟨k, hkn, hlo, hhi, rfl, hb⟩
        have HP := hide (pushL_at (rank := rank) (by rw [hl.out]; exact hkn) hlo (by rw [hl.out]; exact hhi))
        have HO3 := hide (HO.out.keep hb)
        have HB3 := hide (HB2.out.trans (hb.mono (by omega)))
        have hz3 := hb.size
        clear hlo hhi HI HB2 HO hb
        by_cases hkt : k < n ∧ (tk ts k).id = id
        · obtain ⟨hkn', hid⟩ := hkt
          rw [show decide (k < n ∧ (tk ts k).id = id) = true by simp [hkn', hid]]
          rcases HO3.out.2 with ⟨e, h00⟩ | ⟨g, cap, cur, hv, hbg, hg, hnc, hcap, hsz, htake⟩
          · omega
          injection hv with e1 e2 e3
          subst e1 e3
          have hiv := HO3.out.cellAt (j := k * 3 + 1) (by omega)
          rw [iv_get (by have := HO3.out.len; omega), (flat_at ts k).2.1] at hiv
          rw [if_pos ⟨by rw [hl.out]; exact hkn', hid⟩] at HP
          have hfz := HO3.out.frozenAt (k * 3 + 1)
          have hpl : (pushL id rank ts).length = n := by
            rw [HP.out]
            simp only [List.length_append, List.length_cons, List.length_take, List.length_drop, hl.out]
            omega
          have HOK := hide (show pushOk ts id rank = true by rw [HD2.out, hpl]; simp; omega)
          have D := hide (fun (v : Int) (hvm : min (tk ts k).rank rank = v) => (by
            have h := (HO3.out.stored (k * 3 + 1) (.int .i64 v)).1
            rw [show (iv (flat ts)).set (k * 3 + 1) (.int .i64 v) = iv (flat (ts.take k ++ ⟨(tk ts k).id, v, (tk ts k).age⟩ :: ts.drop (k + 1))) by rw [← flat_set_rank (by rw [hl.out]; exact hkn')]; simp [iv, List.map_set]] at h
            exact pushI_yes HOK.out (by rw [HP.out, hvm, hid]) hn10 h (HB3.out.setCell (p := ⟨g, k * 3 + 1, none⟩) hbg _) : PushI ts id rank w (.returned (.tuple #[.slice (some ⟨g, 0, none⟩) n n, .bool true])) (W3.setCell ⟨g, k * 3 + 1, none⟩ (.int .i64 v))))
          have h10 : ¬ (10 : Int) < (n : Int) := by omega
          have hkn2 : (k : Int) < (n : Int) := by omega
          have q1 := clipT_any (some ⟨g, 0, none⟩) n c1
          generalize (tk ts k).rank = y at hiv D
          clear HP HOK HO3 hpl hg htake HASC HD2 hid hsz HA hcap
          have D1 := hide (D.out _ rfl)
          clear D
          go_wp2_with (go_at_call 35; refine (q1 _ hnc hc2).mono ?_; rintro e w' ⟨rfl, rfl⟩)
          go_ret2
          exact D1.out
        · rw [show decide (k < n ∧ (tk ts k).id = id) = false by simpa using hkt]
          rw [if_neg (by rw [hl.out]; exact hkt)] at HP
          have hpl : (pushL id rank ts).length = n + 1 := by
            rw [HP.out]
            simp only [List.length_append, List.length_cons, List.length_take, List.length_drop, hl.out]
            omega
          have hb4 : Below W3.heap.size W3 (W3.alloc (.cells #[.int .i64 id, .int .i64 rank, .int .i64 0] 39)) := (Below.refl _ _).alloc (Nat.le_refl _) _
          have HIN := hide (insert_any w.heap.size A1 n c1 k W3.heap.size (flat ts) id rank 0 (W3.alloc (.cells #[.int .i64 id, .int .i64 rank, .int .i64 0] 39)) (HO3.out.keep hb4) (by have := hb4.size; omega) (by omega) hkn (heap_alloc_new W3 _) (fun g hg => by have := (HO3.out.lt g hg).2; omega))
          have HB4 := hide (HB3.out.trans (hb4.mono (show w.heap.size ≤ W3.heap.size by omega)))
          rw [flat_put] at HIN
          have q1 := fun (A : Option Addr) (c' : Nat) => clipT_any A (n + 1) c'
          have HD3 := hide (show pushOk ts id rank = decide (n + 1 ≤ 10) by rw [HD2.out, hpl])
          clear hb4 HD2 hpl HO3 HB3 HASC HA hkt
          by_cases h10 : n + 1 ≤ 10
          · have HOK := hide (show pushOk ts id rank = true by rw [HD3.out]; simpa using h10)
            have h10' : ¬ (10 : Int) < (n : Int) + 1 := by omega
            go_wp2_with (first
              | (go_at_call 34; refine HIN.out.mono ?_; rintro e w5 ⟨A5, c5, rfl, ho5, hb5⟩; have hc5 : n + 1 ≤ c5 ∧ c5 ≤ 9223372036854775807 := (by obtain ⟨_, _, e, h1, h2, _⟩ := ho5.form; injection e with _ _ e3; subst e3; exact ⟨h1, h2⟩); have D := hide (pushI_yes HOK.out HP.out h10 ho5 (HB4.out.trans hb5)); clear ho5 hb5)
              | (go_at_call 35; refine (q1 _ _ _ hc5.1 hc5.2).mono ?_; rintro e w' ⟨rfl, rfl⟩))
            go_ret2
            exact D.out
          · have HOK := hide (show pushOk ts id rank = false by rw [HD3.out]; simpa using h10)
            have h10' : (10 : Int) < (n : Int) + 1 := by omega
            go_wp2_with (go_at_call 34; refine HIN.out.mono ?_; rintro e w5 ⟨A5, c5, rfl, ho5, hb5⟩; have D := hide (pushI_no HOK.out (HB4.out.trans hb5)); clear ho5 hb5)
            go_ret2
            exact D.out
end Go.Proofs.Ytjmkpegomdgcoaa
