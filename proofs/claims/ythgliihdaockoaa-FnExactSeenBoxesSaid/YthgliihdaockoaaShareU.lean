/- A stable sort of a few numbers: the walk. Conditions: none. -/
import Derived.Test.YthgliihdaockoaaShareT
import Derived.Deep.RegionHeld3
import Derived.BigRegion
namespace Go.Proofs.Ythgliihdaockoaa
open Go.RowKit
set_option linter.unusedVariables false
set_option linter.unusedSimpArgs false
theorem RowF.lt {w : World} {G n : Nat} {f : Nat → Int} (h : RowF w G n f) (hn : 0 < n) : G < w.heap.size := cell_lt (h.cell hn).1
theorem quietC {P : Program} {f : FuncId} {args : Array Value} {w : World} {n : Nat} {v : Value}
    (h : Calls P f args (w.drewN n) fun e w' => e = .returned v ∧ ∃ m, w' = (w.drewN n).drewN m) : Calls P f args (w.drewN n) fun e w'' => e = .returned v ∧ ∃ m, w'' = w.drewN m :=
  h.mono fun _ _ ⟨he, m, hm⟩ => ⟨he, n + m, by rw [hm, World.drewN_drewN]⟩
def Sorted (r : Nat → Int) (n g : Nat) (w : World) (e : Ending) (w' : World) : Prop := e = .returned (.tuple #[]) ∧ RowF w' g n (fun q => (outF r n q : Nat)) ∧ w.grownBy w' (some g)
set_option maxHeartbeats 4000000 in
theorem insSort_any (r : Nat → Int) (n g c gf : Nat) (lb : Array Value) (eg : ∀ args w, (callFunc gf args).run Try.prog w = .ok (.enter gf args) w) (w : World) (hn : 1 ≤ n ∧ n ≤ 8) (hnc : n ≤ c) (hR : RowF w g n (fun q => (q : Nat)))
    (hcmp : ∀ W, w.grownBy W (some g) → Cmps r n gf lb W) :
    Calls Try.prog 78 #[.slice (some ⟨g, 0, none⟩) n c, .int .i64 0, .int .i64 n, .func (.func gf) #[] lb] w (Sorted r n g w) := by
  have H0 := hide (show RowF w g n (fun q => (outF r 1 q : Nat)) ∧ w.grownBy w (some g) from ⟨hR.congr (fun i _ => by rw [outF_one]), only_refl _ _⟩)
  have HC := hide hcmp
  clear hR hcmp
  go_enter Try.func78, Try.ntmps78
  go_wp2
  go_loopw [8] (fun s8 wr => ∃ (i : Nat) (W9 : World), 1 ≤ i ∧ i ≤ n ∧ s8 = .int .i64 i ∧ W9 = wr ∧ Hid (RowF W9 g n (fun q => (outF r i q : Nat)) ∧ w.grownBy W9 (some g))) (fun s8 _ => n - (intOf s8).toNat)
  case atStart => exact ⟨1, _, Nat.le_refl _, by omega, rfl, rfl, H0⟩
  case round =>
    clear H0
    obtain ⟨i, W9, hi1, hin, rfl, rfl, A⟩ := hrel
    by_cases hlt : i < n
    · have HI := hide (show RowF W9 g n (fun q => (inF r i i q : Nat)) ∧ w.grownBy W9 (some g) from ⟨A.out.1.congr (fun q _ => by rw [inF_start]), A.out.2⟩)
      clear A
      go_wp2
      go_loopw [9] (fun s9 wr => ∃ (j : Nat) (W8 : World), j ≤ i ∧ s9 = .int .i64 j ∧ W8 = wr ∧ Hid (∀ q, j ≤ q → q < i → bef r i ((sortR r i).getD q 0)) ∧ Hid (RowF W8 g n (fun q => (inF r i j q : Nat)) ∧ w.grownBy W8 (some g))) (fun s9 _ => (intOf s9).toNat)
      case atStart => exact ⟨i, _, Nat.le_refl _, rfl, rfl, hide (fun q h1 h2 => by omega), HI⟩
      case round =>
        clear HI
        obtain ⟨j, W8, hji, rfl, rfl, HB, A⟩ := hrel
        by_cases hj0 : j = 0
        · have D := hide (show RowF W8 g n (fun q => (outF r (i + 1) q : Nat)) from A.out.1.congr (fun q _ => by rw [inF_end hji HB.out (.inl hj0)]))
          have HG := hide A.out.2
          have e4 : decide ((0 : Int) < (j : Int)) = false := by simp; omega
          have e5 : decide (0 < j) = false := by simp; omega
          clear A HB hj0
          go_wp2
          go_quiet (fail)
          clear e4 e5
          go_wp2
          go_roundw
          case rel => exact ⟨i + 1, _, by omega, by omega, by go_num, rfl, hide ⟨D.out.drewN _, only_drewN HG.out _⟩⟩
          case measure => simp [intOf]; omega
        · obtain ⟨p, hp⟩ : ∃ p, j - 1 = p := ⟨_, rfl⟩
          obtain ⟨y, hy⟩ : ∃ y, (sortR r i).getD p 0 = y := ⟨_, rfl⟩
          have hyi : y < i := by rw [← hy]; exact sort_lt (by omega)
          have c1 := (A.out.1.cell (j := j) (by omega)).1
          have c2 := (A.out.1.cell (j := p) (by omega)).1
          rw [show inF r i j j = i by unfold inF; rw [if_neg (by omega), if_pos rfl]] at c1
          rw [show inF r i j p = y by unfold inF; rw [if_pos (by omega)]; exact hy] at c2
          have hcall := hide (fun m => quietC (HC.out (W8.drewN m) (only_drewN A.out.2 m) i y hlt (by omega)))
          have e4 : decide ((0 : Int) < (j : Int)) = true := by simp; omega
          have e5 : decide (0 < j) = true := by simp; omega
          have e6 : IntKind.i64.wrap ((j : Int) - 1) = (p : Int) := by rw [IntWalk.i64_in _ (by omega)]; omega
          have e7 : (j : Int) < (n : Int) := by omega
          have e8 : (p : Int) < (n : Int) := by omega
          have e9 : j < n := by omega
          have e10 : p < n := by omega
          obtain ⟨hx1, hx2, hx3⟩ := cmpI_neg (r y) (r i)
          generalize hxe : cmpI (r y) (r i) = x at hcall hx1 hx2 hx3
          clear hxe
          by_cases hlt2 : r y < r i
          · have hxn : x < 0 := hx1.2 hlt2
            have HB2 := hide (show ∀ q, p ≤ q → q < i → bef r i ((sortR r i).getD q 0) from fun q h1 h2 => by
              by_cases e : q = p
              · rw [e, hy]; exact .inl hlt2
              · exact HB.out q (by omega) h2)
            have hpi : p ≤ i := by omega
            have hpj : p < j := by omega
            have A0 := hide A.out
            clear A HB hx1 hlt2
            go_wp2
            go_quiet ((go_at_fn gf; exact hcall.out _))
            clear e4 e5 hcall c1 c2
            go_wp2
            have A6 := hide (show RowF (W8.drewN nq) g n (fun q => (inF r i j q : Nat)) ∧ w.grownBy (W8.drewN nq) (some g) from ⟨A0.out.1.drewN _, only_drewN A0.out.2 _⟩)
            clear A0
            generalize W8.drewN nq = W6 at A6 ⊢
            have B6 : RowF W6 g n (fun q => (inF r i j q : Nat)) := A6.out.1
            obtain ⟨c1, f1⟩ := B6.cell (j := j) (by omega)
            obtain ⟨c2, f2⟩ := B6.cell (j := p) (by omega)
            rw [show inF r i j j = i by unfold inF; rw [if_neg (by omega), if_pos rfl]] at c1
            rw [show inF r i j p = y by unfold inF; rw [if_pos (by omega)]; exact hy] at c2
            have A1 := (B6.put (j := j) (by omega) (y : Int))
            obtain ⟨c3, f3⟩ := A1.cell (j := p) (by omega)
            rw [if_neg (by omega)] at c3
            rw [show inF r i j p = y by unfold inF; rw [if_pos (by omega)]; exact hy] at c3
            have A2 := A1.put (j := p) (by omega) (i : Int)
            have D := hide (show RowF ((W6.setCell ⟨g, j, none⟩ (.int .i64 y)).setCell ⟨g, p, none⟩ (.int .i64 i)) g n (fun q => (inF r i p q : Nat)) ∧ w.grownBy ((W6.setCell ⟨g, j, none⟩ (.int .i64 y)).setCell ⟨g, p, none⟩ (.int .i64 i)) (some g) from by
              refine ⟨A2.congr fun q _ => ?_, only_setCell (only_setCell A6.out.2 (.inl rfl) _) (.inl rfl) _⟩
              rw [← hp, ← inF_swap r (show 0 < j by omega) hji q]
              by_cases q1 : q = j - 1
              · rw [if_pos (by omega), if_pos q1]
              · rw [if_neg (by omega), if_neg q1]
                by_cases q2 : q = j
                · rw [if_pos q2, if_pos q2, hp, hy]
                · rw [if_neg q2, if_neg q2])
            clear A1 A2 B6 A6 hy hp
            go_region
            clear c1 c2 c3 f1 f2 f3
            go_wp2
            go_roundw
            case rel => exact ⟨p, _, by omega, by go_num, rfl, HB2, hide ⟨D.out.1.keep (fun _ => rfl), only_drew D.out.2⟩⟩
            case measure => simp [intOf]; omega
          · have hxn : ¬ x < 0 := fun h => hlt2 (hx1.1 h)
            have hbef : bef r y i := by
              unfold bef
              by_cases e : r y = r i
              · exact .inr ⟨e, hyi⟩
              · exact .inl (by omega)
            have D := hide (show RowF W8 g n (fun q => (outF r (i + 1) q : Nat)) from A.out.1.congr (fun q _ => by rw [inF_end hji HB.out (.inr (by rw [hp, hy]; exact hbef))]))
            have HG := hide A.out.2
            clear A HB hx1 hlt2 hy hp hbef
            go_wp2
            go_quiet ((go_at_fn gf; exact hcall.out _))
            clear e4 e5 c1 c2
            go_wp2
            go_roundw
            case rel => exact ⟨i + 1, _, by omega, by omega, by go_num, rfl, hide ⟨D.out.drewN _, only_drewN HG.out _⟩⟩
            case measure => simp [intOf]; omega
    · obtain rfl : i = n := by omega
      have D := hide (show Sorted r i g w (.returned (.tuple #[])) W9 from ⟨rfl, A.out.1, A.out.2⟩)
      clear A
      go_wp2
      exact bodyPost_ret (v := .tuple #[]) (by simp [results, Try.results78, go_sem]) rfl D.out
set_option maxHeartbeats 1000000 in
theorem stable_any (r : Nat → Int) (n g c gf : Nat) (lb : Array Value) (eg : ∀ args w, (callFunc gf args).run Try.prog w = .ok (.enter gf args) w) (w : World) (hn : 1 ≤ n ∧ n ≤ 8) (hnc : n ≤ c) (hR : RowF w g n (fun q => (q : Nat)))
    (hcmp : ∀ W, w.grownBy W (some g) → Cmps r n gf lb W) :
    Calls Try.prog 74 #[.slice (some ⟨g, 0, none⟩) n c, .int .i64 n, .func (.func gf) #[] lb] w (Sorted r n g w) := by
  have HI := hide (insSort_any r n g c gf lb eg w hn hnc hR hcmp)
  clear hR hcmp
  have e1 : ¬ (20 : Int) ≤ (n : Int) := by omega
  have e2 : ¬ (20 : Int) < (n : Int) := by omega
  have e3 : ¬ 20 ≤ n := by omega
  have e4 : ¬ 20 < n := by omega
  go_enter Try.func74, Try.ntmps74
  have HI' := hide (fun (W : World) (h : W = w) => (show Calls Try.prog 78 #[.slice (some ⟨g, 0, none⟩) n c, .int .i64 0, .int .i64 n, .func (.func gf) #[] lb] W (Sorted r n g w) from h ▸ HI.out))
  clear HI
  go_wp2
  go_loopw [7, 8] (fun s7 s8 wr => ∃ W9 : World, s7 = .int .i64 0 ∧ s8 = .int .i64 20 ∧ W9 = wr ∧ Hid (W9 = w)) (fun _ _ _ => 0)
  case atStart => exact ⟨w, rfl, rfl, rfl, hide rfl⟩
  case round =>
    obtain ⟨W9, rfl, rfl, rfl, hW⟩ := hrel
    go_wp2_with fail
    refine (HI'.out W9 hW.out).mono ?_
    rintro e w1 ⟨rfl, hR1, hg1⟩
    have D := hide (show Sorted r n g w (.returned (.tuple #[])) w1 from ⟨rfl, hR1, hg1⟩)
    clear hR1 hg1 HI' hW
    go_wp2
    go_loopw [6] (fun s6 wr => ∃ W8 : World, s6 = .int .i64 20 ∧ W8 = wr ∧ Hid (Sorted r n g w (.returned (.tuple #[])) W8)) (fun _ _ => 0)
    case atStart => exact ⟨w1, rfl, rfl, D⟩
    case round =>
      clear D
      obtain ⟨W8, rfl, rfl, D⟩ := hrel
      go_wp2
      exact bodyPost_ret (v := .tuple #[]) (by simp [results, Try.results74, go_sem]) rfl D.out
end Go.Proofs.Ythgliihdaockoaa
