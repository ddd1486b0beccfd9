/- Slices: striking elements from a slice, in place. Conditions: none. -/
import Derived.Test.YtmflfpjcaijmmaaTreeJ
import Derived.Lib.SliceRun
namespace Go.Proofs.Ytmflfpjcaijmmaa
open Go.RowKit
set_option linter.unusedVariables false
set_option linter.unusedSimpArgs false
theorem Row.clear {E : TypeId} {lo hi n g off : Nat} : ∀ (k i : Nat) (w : World) (zs : List Int), Row E w lo hi (some ⟨g, off, none⟩) n zs → i + k ≤ n →
    ∃ ys, ys.take i = zs.take i ∧ Row E (w.setCells g (off + i) (List.replicate k (.int .i64 0))) lo hi (some ⟨g, off, none⟩) n ys
  | 0, i, w, zs, h, _ => ⟨zs, rfl, h⟩
  | k + 1, i, w, zs, h, hk => by
    obtain ⟨ys, h1, h2⟩ := Row.clear k (i + 1) _ _ (h.put (j := i) (by omega) 0) (by omega)
    refine ⟨ys, ?_, h2⟩
    have h3 := congrArg (List.take i) h1
    rw [List.take_take, List.take_take, Nat.min_eq_left (by omega), List.take_set_of_le (by omega)] at h3
    exact h3
theorem Only.cells {lo hi : Nat} {w : World} {g : Nat} (h1 : lo ≤ g) (h2 : g < hi) : ∀ (vs : List Value) (o : Nat) (wr : World), Only lo hi w wr → Only lo hi w (wr.setCells g o vs)
  | [], _, _, h => h
  | v :: r, o, wr, h => Only.cells h1 h2 r (o + 1) _ (h.set h1 h2 v)
theorem kept_yes {xs zs : List Int} {q : Int → Bool} {i j n : Nat} (hl : xs.length = n) (hz : zs.length = n) (h : zs.take i = (xs.take j).filter q) (hij : i < j) (hj : j < n) (hq : q (xs.getD j 0) = true) :
    (zs.set i (xs.getD j 0)).take (i + 1) = (xs.take (j + 1)).filter q := by
  have hjx : j < xs.length := by omega
  have e : xs.getD j 0 = xs[j] := by rw [List.getD_eq_getElem?_getD, List.getElem?_eq_getElem hjx]; rfl
  rw [e] at hq ⊢
  rw [List.take_succ_eq_append_getElem (by rw [List.length_set]; omega), List.take_set_of_le (Nat.le_refl _), List.getElem_set_self, h, List.take_succ_eq_append_getElem hjx, List.filter_append, List.filter_cons_of_pos hq]
  rfl
theorem kept_no {xs zs : List Int} {q : Int → Bool} {i j n : Nat} (hl : xs.length = n) (h : zs.take i = (xs.take j).filter q) (hj : j < n) (hq : q (xs.getD j 0) = false) :
    zs.take i = (xs.take (j + 1)).filter q := by
  have hjx : j < xs.length := by omega
  have e : xs.getD j 0 = xs[j] := by rw [List.getD_eq_getElem?_getD, List.getElem?_eq_getElem hjx]; rfl
  rw [e] at hq
  rw [h, List.take_succ_eq_append_getElem hjx, List.filter_append, List.filter_cons_of_neg (by rw [hq]; exact Bool.false_ne_true)]
  simp
theorem kept_first {xs : List Int} {p : Int → Bool} {n k : Nat} (hl : xs.length = n) (hk : k < n) (h : (xs.take k).any p = false) (hp : p (xs.getD k 0) = true) :
    xs.take k = (xs.take (k + 1)).filter (fun x => !p x) := by
  have h1 : (xs.take k).filter (fun x => !p x) = xs.take k := List.filter_eq_self.2 (fun x hx => by
    have h2 := List.any_eq_false.1 h x hx
    simpa using h2)
  refine kept_no (q := fun x => !p x) hl h1.symm hk ?_
  show (!p (xs.getD k 0)) = false
  rw [hp]; rfl
/-- what is left of a slice's elements, in its own first cells -/
def DelR (lo hi : Nat) (a : Option Addr) (c : Nat) (L : List Int) (w : World) (e : Ending) (w' : World) : Prop :=
  ∃ m, e = .returned (.slice a m c) ∧ Row 3 w' lo hi a m L ∧ Only lo hi w w' ∧ m ≤ c
set_option maxHeartbeats 4000000 in
theorem deleteFn_any (g : Nat) (lb : Array Value) (eg : ∀ args w, (callFunc g args).run Try.prog w = .ok (.enter g args) w) (p : Int → Bool) (lo hi : Nat) (a : Option Addr) (n c : Nat) (xs : List Int) (w : World)
    (hA : Row 3 w lo hi a n xs) (hhi : hi ≤ w.heap.size) (hnc : n ≤ c) (hcm : c ≤ 1099511627776) (hp : ∀ x, x ∈ xs → ∀ W, Only lo hi w W → Calls Try.prog g (#[.int .i64 x] ++ lb) W fun e w' => e = .returned (.bool (p x)) ∧ Below W.heap.size W w') :
    Calls Try.prog 50 #[.slice a n c, .func (.func g) #[] lb] w (DelR lo hi a c (xs.filter fun x => !p x) w) := by
  have hidx := indexFn_any g lb eg p hi a n c xs w hA.ints hhi (by omega) (fun x hx W hW => hp x hx W (Only.ofBelow hW))
  have HA := hide hA
  have hl := hide hA.1
  have HP := hide hp
  clear hA hp
  go_enter Try.func50, Try.ntmps50
  go_wp2_with fail
  refine hidx.mono ?_
  rintro e W1 ⟨⟨i, hi1, rfl⟩, hb⟩
  clear hidx
  rcases hi1 with ⟨rfl, hall⟩ | ⟨k, rfl, hk, hpre, hhit⟩
  · have D := hide (show DelR lo hi a c (xs.filter fun x => !p x) w (.returned (.slice a n c)) W1 from ⟨n, rfl, by
      rw [List.filter_eq_self.2 (fun x hx => by have h2 := List.any_eq_false.1 hall x hx; simpa using h2)]
      exact HA.out.belowS hb, Only.ofBelow hb, hnc⟩)
    clear hall hb
    go_wp2
    go_ret
    exact D.out
  · obtain ⟨g0, off, cur, rfl, hlo, hhi0, -, -, -⟩ := HA.out.2 (by omega)
    have hk1 : ((k : Int) == -1) = false := beq_eq_false_iff_ne.2 (by omega)
    have HK := hide (kept_first hl.out hk hpre hhit)
    have HR := hide (HA.out.belowS hb)
    have HO := hide (show Only lo hi w W1 from Only.ofBelow hb)
    clear hpre hhit hb HA
    go_wp2
    go_loopw [5, 6, 7] (fun s5 s6 _ wr => ∃ (i j : Nat) (zs : List Int) (W9 : World), i < j ∧ j ≤ n ∧ s5 = .int .i64 i ∧ s6 = .int .i64 j ∧ W9 = wr ∧ Hid (zs.take i = (xs.take j).filter (fun x => !p x)) ∧ Hid (∀ t, j ≤ t → zs.getD t 0 = xs.getD t 0) ∧ Hid (Row 3 W9 lo hi (some ⟨g0, off, none⟩) n zs) ∧ Hid (Only lo hi w W9)) (fun _ s6 _ _ => n - (intOf s6).toNat)
    case atStart => exact ⟨k, k + 1, xs, _, by omega, by omega, rfl, by go_num, rfl, HK, hide (fun t _ => rfl), HR, HO⟩
    case round =>
      clear HK HR HO hk1 hk
      obtain ⟨i, j, zs, W9, hij, hjn, rfl, rfl, rfl, HK, HT, HR, HO⟩ := hrel
      have hz9 := HO.out.size
      by_cases hlt : j < n
      · have hjn' : (j : Int) < (n : Int) := by omega
        have hin' : (i : Int) < (n : Int) := by omega
        have hin : i < n := by omega
        have hcj := (HR.out.cell j hlt).1
        rw [HT.out j (Nat.le_refl _)] at hcj
        have hcall := HP.out (xs.getD j 0) (getD_mem (by rw [hl.out]; exact hlt)) W9 HO.out
        obtain ⟨y, hy⟩ : ∃ y, xs.getD j 0 = y := ⟨_, rfl⟩
        have HY := hide hy
        rw [hy] at hcj hcall
        clear hy
        obtain ⟨old, hold⟩ : ∃ old, zs.getD i 0 = old := ⟨_, rfl⟩
        have HOld := hide hold
        clear hold
        cases hq : p y with
        | true =>
          rw [hq] at hcall
          have D := hide (kept_no (q := fun x => !p x) hl.out HK.out hlt (by rw [HY.out]; show (!p y) = false; rw [hq]; rfl))
          have D2 := hide (fun t (ht : j + 1 ≤ t) => HT.out t (by omega))
          clear hq HK
          go_wp2_with (go_at_fn g; refine hcall.mono ?_; rintro e W10 ⟨rfl, hb⟩; have HR1 := hide (HR.out.belowS hb); have HO1 := hide (HO.out.trans (Only.ofBelow hb)); clear hb)
          go_roundw
          case rel => exact ⟨i, j + 1, zs, _, by omega, by omega, rfl, by go_num, rfl, D, D2, HR1, HO1⟩
          case measure => simp [intOf]; omega
        | false =>
          rw [hq] at hcall
          have D := hide (show (zs.set i y).take (i + 1) = (xs.take (j + 1)).filter (fun x => !p x) by
            rw [← HY.out]
            exact kept_yes (q := fun x => !p x) hl.out HR.out.1 HK.out hij hlt (by rw [HY.out]; show (!p y) = true; rw [hq]; rfl))
          have D2 := hide (show ∀ t, j + 1 ≤ t → (zs.set i y).getD t 0 = xs.getD t 0 from fun t ht => by
            rw [getD_set (by rw [HR.out.1]; exact hin), if_neg (by omega)]
            exact HT.out t (by omega))
          clear hq HK
          go_wp2_with (go_at_fn g; refine hcall.mono ?_; rintro e W10 ⟨rfl, hb⟩; have HR0 := hide (HR.out.belowS hb); have hci := (HR0.out.cell i hin).1; have hfi := (HR0.out.cell i hin).2; rw [HOld.out] at hci; have HR1 := hide (HR0.out.put hin y); have HO1 := hide ((HO.out.trans (Only.ofBelow hb)).set (o := off + i) hlo hhi0 (.int .i64 y)); clear hb HR0)
          go_roundw
          case rel => exact ⟨i + 1, j + 1, _, _, by omega, by omega, by go_num, by go_num, rfl, D, D2, HR1, HO1⟩
          case measure => simp [intOf]; omega
      · obtain rfl : n = j := by omega
        have hin : i ≤ n := by omega
        have hin' : (i : Int) ≤ (n : Int) := by omega
        have hic' : (i : Int) ≤ (c : Int) := by omega
        have hcl : ∀ ty, (Builtin.clear_ #[31] ty #[.slice (some ⟨g0, off + i, none⟩) (n - i) (c - i)]).run Try.prog W9 = .ok (.tuple #[]) (W9.setCells g0 (off + i) (List.replicate (n - i) (.int .i64 0))) :=
          fun ty => Lib.run_clear_slice W9 _ _ ty _ Try.underlying31 Try.zeroValue3 rfl rfl g0 (off + i) _ _ (by omega) (fun t ht => by rw [Nat.add_assoc, (HR.out.cell (i + t) (by omega)).1]; rfl) (fun t ht => by rw [Nat.add_assoc]; exact (HR.out.cell (i + t) (by omega)).2)
        have D := hide (show DelR lo hi (some ⟨g0, off, none⟩) c (xs.filter fun x => !p x) w (.returned (.slice (some ⟨g0, off, none⟩) i c)) (W9.setCells g0 (off + i) (List.replicate (n - i) (.int .i64 0))) from by
          obtain ⟨ys, h1, h2⟩ := Row.clear (n - i) i W9 zs HR.out (by omega)
          refine ⟨i, rfl, ?_, Only.cells hlo hhi0 _ _ _ HO.out, by omega⟩
          have h3 := h2.take hin
          have h4 := HK.out
          rw [← hl.out, List.take_length] at h4
          rw [h1, h4] at h3
          exact h3)
        clear HK HT HR HO
        go_wp2
        go_ret
        exact D.out
end Go.Proofs.Ytmflfpjcaijmmaa
