/- Slices of integers: is there one of which a predicate holds; do all lie in a range; clipped. Conditions: none. -/
import Derived.Test.YtmflfpjcaijmmaaMem
import Derived.Deep.LoopGhost
import Derived.Deep.QuietTactic
import Derived.Shelf.Abstract
namespace Go.Proofs.Ytmflfpjcaijmmaa
open Go.RowKit
set_option linter.unusedVariables false

/-- a place, or a number below 0, as there is one -/
def Found (b : Bool) (w : World) (e : Ending) (w' : World) : Prop := ∃ i : Int, (decide (0 ≤ i) = b) ∧ e = .returned (.int .i64 i) ∧ w = w'

theorem any_take_succ {xs : List Int} {p : Int → Bool} {k : Nat} (hk : k < xs.length) : (xs.take (k + 1)).any p = ((xs.take k).any p || p (xs.getD k 0)) := by
  rw [List.take_succ_eq_append_getElem hk, List.any_append]
  simp [List.getD_eq_getElem?_getD, hk]
theorem any_hit {xs : List Int} {p : Int → Bool} {k : Nat} (hk : k < xs.length) (h : p (xs.getD k 0) = true) : xs.any p = true := by
  rw [List.any_eq_true]
  refine ⟨xs.getD k 0, ?_, h⟩
  rw [List.getD_eq_getElem?_getD, List.getElem?_eq_getElem hk]
  exact List.getElem_mem _

theorem indexInts_any (g : Nat) (lb : Array Value) (eg : ∀ args w, (callFunc g args).run Try.prog w = .ok (.enter g args) w) (p : Int → Bool) (B : Nat) (a : Option Addr) (n c : Nat) (xs : List Int) (w : World)
    (hA : Ints .i64 w B a n xs) (hn : n ≤ 9223372036854775807) (hp : ∀ x, Calls Try.prog g (#[.int .i64 x] ++ lb) w fun e w' => e = .returned (.bool (p x)) ∧ w = w') :
    Calls Try.prog 62 #[.slice a n c, .func (.func g) #[] lb] w (Found (xs.any p) w) := by
  obtain ⟨hl, hw, hc⟩ := hA
  have HF := hide (show xs.any p = false → Found (xs.any p) w (.returned (.int .i64 (-1))) w from fun h => ⟨-1, by rw [h]; rfl, rfl, rfl⟩)
  go_enter Try.func62, Try.ntmps62
  go_wp2
  go_loop [5, 8] (fun _ s8 => ∃ k : Nat, k ≤ n ∧ s8 = .int .i64 k ∧ Hid ((xs.take k).any p = false)) (fun _ s8 => n - (intOf s8).toNat)
  case atStart => exact ⟨0, Nat.zero_le _, rfl, hide (by simp)⟩
  case round =>
    obtain ⟨k, hk, rfl, A⟩ := hrel
    by_cases hlt : k < n
    · obtain ⟨b, off, rfl, _, hcell⟩ := hc (by omega)
      have hck := hcell k hlt
      have hcall := hp (xs.getD k 0)
      have HS := hide (any_take_succ (p := p) (show k < xs.length by omega))
      have HH := hide (show p (xs.getD k 0) = true → Found (xs.any p) w (.returned (.int .i64 (k : Int))) w from fun h => ⟨k, by rw [any_hit (by omega) h]; simp, rfl, rfl⟩)
      clear hcell hp hc
      generalize xs.getD k 0 = y at hck hcall HS HH
      cases hq : p y with
      | true =>
        have D := hide (HH.out hq)
        rw [hq] at hcall
        go_wp2_with (go_at_fn g; refine hcall.mono ?_; rintro e w' ⟨rfl, rfl⟩)
        go_ret
        exact D.out
      | false =>
        have D := hide (show (xs.take (k + 1)).any p = false by rw [HS.out, A.out, hq]; rfl)
        rw [hq] at hcall
        go_wp2_with (go_at_fn g; refine hcall.mono ?_; rintro e w' ⟨rfl, rfl⟩)
        go_round
        case rel => exact ⟨k + 1, by omega, by go_num, D⟩
        case measure => simp [intOf]; omega
    · obtain rfl : k = n := by omega
      have D := hide (HF.out (by rw [← List.take_length (l := xs), hl]; exact A.out))
      clear hc hp
      go_wp2
      go_ret
      exact D.out

theorem containsInts_any (g : Nat) (lb : Array Value) (eg : ∀ args w, (callFunc g args).run Try.prog w = .ok (.enter g args) w) (p : Int → Bool) (B : Nat) (a : Option Addr) (n c : Nat) (xs : List Int) (w : World)
    (hA : Ints .i64 w B a n xs) (hn : n ≤ 9223372036854775807) (hp : ∀ x, Calls Try.prog g (#[.int .i64 x] ++ lb) w fun e w' => e = .returned (.bool (p x)) ∧ w = w') :
    Calls Try.prog 44 #[.slice a n c, .func (.func g) #[] lb] w fun e w' => e = .returned (.bool (xs.any p)) ∧ w = w' := by
  have hc := hide (indexInts_any g lb eg p B a n c xs w hA hn hp)
  clear hA hp
  go_enter Try.func44, Try.ntmps44
  go_wp2_with fail
  refine hc.out.mono ?_
  rintro e w' ⟨i, hi, rfl, rfl⟩
  cases hb : xs.any p
  · have hi' : ¬ 0 ≤ i := by rw [hb] at hi; simpa using hi
    clear hi
    go_wp2
    go_ret
    exact ⟨by first | rfl | exact ret_bool (by simp [*]), rfl⟩
  · have hi' : 0 ≤ i := by rw [hb] at hi; simpa using hi
    clear hi
    go_wp2
    go_ret
    exact ⟨by first | rfl | exact ret_bool (by simp [*]), rfl⟩

/-- all numbers lie in a range -/
def inAll (xs : List Int) (lo hi : Int) : Bool := xs.all fun x => inR x lo hi
theorem inAll_iff {xs : List Int} {lo hi : Int} : inAll xs lo hi = true ↔ ∀ x ∈ xs, lo ≤ x ∧ x ≤ hi := by simp [inAll, inR]
theorem inAll_any (xs : List Int) (lo hi : Int) : (!(xs.any fun x => !inR x lo hi)) = inAll xs lo hi := by
  unfold inAll
  induction xs with
  | nil => rfl
  | cons x xs ih => simp only [List.any_cons, List.all_cons, Bool.not_or, Bool.not_not, ih]

theorem allInFn_any (B1 B2 : Nat) (lo hi x : Int) (w : World) (h1 : w.cell? ⟨B1, 0, none⟩ = some (.int .i64 lo)) (h2 : w.cell? ⟨B2, 0, none⟩ = some (.int .i64 hi)) :
    Calls Try.prog 68 (#[.int .i64 x] ++ #[.pointer (some ⟨B1, 0, none⟩), .pointer (some ⟨B2, 0, none⟩)]) w fun e w' => e = .returned (.bool (!inR x lo hi)) ∧ w = w' := by
  show Calls Try.prog 68 #[.int .i64 x, .pointer (some ⟨B1, 0, none⟩), .pointer (some ⟨B2, 0, none⟩)] w _
  go_enter Try.func68, Try.ntmps68
  go_wp2_with (go_at_call 49; refine (within_any _ _ _ _).mono ?_; rintro e w' ⟨rfl, rfl⟩)
  go_ret
  exact ⟨rfl, rfl⟩

theorem implAllIn_any (B : Nat) (a : Option Addr) (n c : Nat) (xs : List Int) (lo hi : Int) (w : World) (hA : Ints .i64 w B a n xs) (hB : B ≤ w.heap.size) (hn : n ≤ 9223372036854775807) :
    Calls Try.prog 61 #[.slice a n c, .int .i64 lo, .int .i64 hi] w fun e w' => e = .returned (.bool (inAll xs lo hi)) ∧ Below w.heap.size w w' := by
  have hA' := hide hA
  clear hA
  go_enter Try.func61, Try.ntmps61
  go_wp2_with fail
  have hb : Below w.heap.size w ((w.alloc (.cells #[.int .i64 lo] 3)).alloc (.cells #[.int .i64 hi] 3)) := ((Below.refl _ _).alloc (Nat.le_refl _) _).alloc (by simp) _
  refine (containsInts_any 68 #[.pointer (some ⟨w.heap.size, 0, none⟩), .pointer (some ⟨w.heap.size + 1, 0, none⟩)] (enters_of Try.func68 (by kernel_rfl) rfl) (fun x => !inR x lo hi) B a n c xs _
    (hA'.out.keep fun b o hlt => hb.cell (p := ⟨b, o, none⟩) (by show b < w.heap.size; omega)) hn
    (fun x => allInFn_any _ _ lo hi x _ (by simp [go_sem, World.cell?_alloc_past]) (by simp [go_sem]))).mono ?_
  rintro e w' ⟨rfl, rfl⟩
  have HB := hide hb
  have HD := hide (inAll_any xs lo hi)
  clear hb
  go_wp2
  go_ret
  exact ⟨ret_bool HD.out, HB.out⟩

theorem all_take_succ {xs : List Int} {p : Int → Bool} {k : Nat} (hk : k < xs.length) : (xs.take (k + 1)).all p = ((xs.take k).all p && p (xs.getD k 0)) := by
  rw [List.take_succ_eq_append_getElem hk, List.all_append]
  simp [List.getD_eq_getElem?_getD, hk]
theorem all_miss {xs : List Int} {p : Int → Bool} {k : Nat} (hk : k < xs.length) (h : p (xs.getD k 0) = false) : xs.all p = false := by
  rw [List.all_eq_false]
  refine ⟨xs.getD k 0, ?_, by rw [h]; decide⟩
  rw [List.getD_eq_getElem?_getD, List.getElem?_eq_getElem hk]
  exact List.getElem_mem _

theorem specAllIn_any (B : Nat) (a : Option Addr) (n c : Nat) (xs : List Int) (lo hi : Int) (w : World) (hA : Ints .i64 w B a n xs) (hn : n ≤ 9223372036854775807) :
    Calls Try.prog 60 #[.slice a n c, .int .i64 lo, .int .i64 hi] w fun e w' => e = .returned (.bool (inAll xs lo hi)) ∧ w = w' := by
  obtain ⟨hl, hw, hc⟩ := hA
  go_enter Try.func60, Try.ntmps60
  go_wp2
  go_loop [7] (fun s7 => ∃ k : Nat, k ≤ n ∧ s7 = .int .i64 k ∧ Hid (inAll (xs.take k) lo hi = true)) (fun s7 => n - (intOf s7).toNat)
  case atStart => exact ⟨0, Nat.zero_le _, rfl, hide (by simp [inAll])⟩
  case round =>
    obtain ⟨k, hk, rfl, A⟩ := hrel
    by_cases hlt : k < n
    · obtain ⟨b, off, rfl, _, hcell⟩ := hc (by omega)
      have hck := hcell k hlt
      have HS := hide (all_take_succ (p := fun x => inR x lo hi) (show k < xs.length by omega))
      have HM := hide (all_miss (p := fun x => inR x lo hi) (show k < xs.length by omega))
      clear hcell hc
      generalize xs.getD k 0 = y at hck HS HM
      cases hq : inR y lo hi with
      | true =>
        have D := hide (show inAll (xs.take (k + 1)) lo hi = true by
          have h1 := HS.out; have h2 := A.out
          unfold inAll at h2 ⊢
          rw [h1, h2, hq]; rfl)
        go_wp2_with (go_at_call 33; refine (inRange_any _ _ _ _).mono ?_; rintro e w' ⟨rfl, rfl⟩)
        go_round
        case rel => exact ⟨k + 1, by omega, by go_num, D⟩
        case measure => simp [intOf]; omega
      | false =>
        have D := hide (show inAll xs lo hi = false from HM.out hq)
        go_wp2_with (go_at_call 33; refine (inRange_any _ _ _ _).mono ?_; rintro e w' ⟨rfl, rfl⟩)
        go_ret
        exact ⟨ret_bool D.out.symm, rfl⟩
    · obtain rfl : k = n := by omega
      have D := hide (show inAll xs lo hi = true by rw [← List.take_length (l := xs), hl]; exact A.out)
      clear hc
      go_wp2
      go_ret
      exact ⟨ret_bool D.out.symm, rfl⟩

theorem clipInts_any (a : Option Addr) (n c : Nat) (w : World) (hc : n ≤ c) (hm : c ≤ maxLen) :
    Calls Try.prog 46 #[.slice a n c] w fun e w' => e = .returned (.slice a n n) ∧ w = w' := by
  unfold maxLen at hm
  go_enter Try.func46, Try.ntmps46
  go_wp2
  go_ret
  exact ⟨rfl, rfl⟩
end Go.Proofs.Ytmflfpjcaijmmaa
