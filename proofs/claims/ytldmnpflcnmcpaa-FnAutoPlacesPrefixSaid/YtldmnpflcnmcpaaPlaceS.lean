/- Lists of lists: compared, marked, asked. Conditions: none. -/
import Derived.Test.YtldmnpflcnmcpaaPlace
import Derived.Deep.RegionHeld3
namespace Go.Proofs.Ytldmnpflcnmcpaa
open Go.RowKit
set_option linter.unusedVariables false
/-- another two numbers in one of the lists -/
theorem PL.marked {w w' : World} {lo hi n k : Nat} {A : Option Addr} {gs : List Nat} {R C R' C' : Nat → Int} (h : PL w lo hi A n gs R C) (hk : k < n) (hr : Row 3 w' (gs.getD k 0) (gs.getD k 0 + 1) (some ⟨gs.getD k 0, 0, none⟩) 2 [R' k, C' k])
    (ho : Only (gs.getD k 0) (gs.getD k 0 + 1) w w') (hR : ∀ i, i < n → i ≠ k → R i = R' i ∧ C i = C' i) : PL w' lo hi A n gs R' C' where
  len := h.len
  out := fun hn => by
    obtain ⟨g, off, e, h1, h2, h3, h4⟩ := h.out hn
    refine ⟨g, off, e, h1, h2, fun i hi => ?_, h4⟩
    have h5 := cell_lt (h3 i hi)
    have h6 := h4 k hk
    rw [← h3 i hi]
    exact World.cell?_of_block (w := w) (ho.block g h5 (by omega))
  inn := fun i hi => by
    obtain ⟨h1, h2, h3⟩ := h.inn i hi
    by_cases e : i = k
    · subst e; exact ⟨h1, h2, hr⟩
    · have h5 : gs.getD i 0 ≠ gs.getD k 0 := by
        rcases Nat.lt_or_ge i k with h6 | h6
        · exact h.dis i k h6 hk
        · exact (h.dis k i (by omega) hi).symm
      rw [← (hR i hi e).1, ← (hR i hi e).2]
      exact ⟨h1, h2, h3.far ho (by omega)⟩
  dis := h.dis
theorem eqSS_any (lo1 hi1 lo2 hi2 : Nat) (A1 A2 : Option Addr) (n c d : Nat) (gs hs : List Nat) (R C : Nat → Int) (w : World) (h1 : PL w lo1 hi1 A1 n gs R C) (h2 : PL w lo2 hi2 A2 n hs R C) (hn : n ≤ 9223372036854775807) :
    Calls Try.prog 20 #[.slice A1 n c, .slice A2 n d] w fun e w' => e = .returned (.bool true) ∧ Below w.heap.size w w' := by
  have H1 := hide h1
  have H2 := hide h2
  clear h1 h2
  have hq : ((n : Int) != (n : Int)) = false := by simp
  go_enter Try.func20, Try.ntmps20
  go_wp2
  go_loopw [5] (fun s5 wr => ∃ (k : Nat) (W9 : World), k ≤ n ∧ s5 = .int .i64 k ∧ W9 = wr ∧ Hid (Below w.heap.size w W9)) (fun s5 _ => n - (intOf s5).toNat)
  case atStart => exact ⟨0, w, Nat.zero_le _, rfl, rfl, hide (Below.refl _ _)⟩
  case round =>
    obtain ⟨k, W9, hk, rfl, rfl, HB⟩ := hrel
    by_cases hlt : k < n
    · have P1 := H1.out.belowS HB.out
      have P2 := H2.out.belowS HB.out
      obtain ⟨g1, o1, rfl, _, _, c1, _⟩ := P1.out (by omega)
      obtain ⟨g2, o2, rfl, _, _, c2, _⟩ := P2.out (by omega)
      have I1 := hide (P1.inn k hlt).2.2.ints
      have I2 := hide (P2.inn k hlt).2.2.ints
      have hc1 := c1 k hlt
      have hc2 := c2 k hlt
      clear P1 P2 c1 c2
      generalize gs.getD k 0 = u1 at hc1 I1
      generalize hs.getD k 0 = u2 at hc2 I2
      have hz := HB.out.size
      have hg1 : g1 < W9.heap.size := cell_lt hc1
      have hg2 : g2 < W9.heap.size := cell_lt hc2
      go_wp2_with fail
      go_region_held3 (fun w' => w'.cell? ⟨g1, o1 + k, none⟩ = some (.slice (some ⟨u1, 0, none⟩) 2 2) ∧ w'.cell? ⟨g2, o2 + k, none⟩ = some (.slice (some ⟨u2, 0, none⟩) 2 2)) (first | go_keep | exact ⟨s1, s2⟩)
        ((go_at_call 17; refine (eqIntS_any (u1 + 1) (u2 + 1) (some ⟨u1, 0, none⟩) (some ⟨u2, 0, none⟩) 2 2 2 2 [R k, C k] [R k, C k] W9.drew (show Ints .i64 W9.drew (u1 + 1) (some ⟨u1, 0, none⟩) 2 [R k, C k] from I1.out) (show Ints .i64 W9.drew (u2 + 1) (some ⟨u2, 0, none⟩) 2 [R k, C k] from I2.out) (by omega) (by omega)).mono ?_; rintro e W10 ⟨rfl, hb⟩; rw [listEq_self]; have s1 := (hb.cell (p := ⟨g1, o1 + k, none⟩) hg1).trans hc1; have s2 := (hb.cell (p := ⟨g2, o2 + k, none⟩) hg2).trans hc2))
      have D := hide (HB.out.drew.trans (hb.mono hz))
      clear hb
      go_wp2
      go_roundw
      case rel => exact ⟨k + 1, _, by omega, by go_num, rfl, D⟩
      case measure => simp [intOf]; omega
    · obtain rfl : k = n := by omega
      go_wp2
      go_ret
      exact ⟨rfl, HB.out⟩
theorem eqLists_any (lo1 hi1 lo2 hi2 : Nat) (A1 A2 : Option Addr) (n c d : Nat) (gs hs : List Nat) (R C : Nat → Int) (w : World) (h1 : PL w lo1 hi1 A1 n gs R C) (h2 : PL w lo2 hi2 A2 n hs R C) (hn : n ≤ 9223372036854775807) :
    Calls Try.prog 25 #[.slice A1 n c, .slice A2 n d] w fun e w' => e = .returned (.bool true) ∧ Below w.heap.size w w' := by
  have H1 := hide h1
  have H2 := hide h2
  clear h1 h2
  have hq : ((n : Int) != (n : Int)) = false := by simp
  go_enter Try.func25, Try.ntmps25
  go_wp2
  go_loopw [5] (fun s5 wr => ∃ (k : Nat) (W9 : World), k ≤ n ∧ s5 = .int .i64 k ∧ W9 = wr ∧ Hid (Below w.heap.size w W9)) (fun s5 _ => n - (intOf s5).toNat)
  case atStart => exact ⟨0, w, Nat.zero_le _, rfl, rfl, hide (Below.refl _ _)⟩
  case round =>
    obtain ⟨k, W9, hk, rfl, rfl, HB⟩ := hrel
    by_cases hlt : k < n
    · have P1 := H1.out.belowS HB.out
      have P2 := H2.out.belowS HB.out
      obtain ⟨g1, o1, rfl, _, _, c1, _⟩ := P1.out (by omega)
      obtain ⟨g2, o2, rfl, _, _, c2, _⟩ := P2.out (by omega)
      have I1 := hide (P1.inn k hlt).2.2.ints
      have I2 := hide (P2.inn k hlt).2.2.ints
      have hc1 := c1 k hlt
      have hc2 := c2 k hlt
      clear P1 P2 c1 c2
      generalize gs.getD k 0 = u1 at hc1 I1
      generalize hs.getD k 0 = u2 at hc2 I2
      have hz := HB.out.size
      have hg1 : g1 < W9.heap.size := cell_lt hc1
      have hg2 : g2 < W9.heap.size := cell_lt hc2
      go_wp2_with fail
      go_region_held3 (fun w' => w'.cell? ⟨g1, o1 + k, none⟩ = some (.slice (some ⟨u1, 0, none⟩) 2 2) ∧ w'.cell? ⟨g2, o2 + k, none⟩ = some (.slice (some ⟨u2, 0, none⟩) 2 2)) (first | go_keep | exact ⟨s1, s2⟩)
        ((go_at_call 26; refine (equalInts_any (u1 + 1) (u2 + 1) (some ⟨u1, 0, none⟩) (some ⟨u2, 0, none⟩) 2 2 2 2 [R k, C k] [R k, C k] W9.drew (show Ints .i64 W9.drew (u1 + 1) (some ⟨u1, 0, none⟩) 2 [R k, C k] from I1.out) (show Ints .i64 W9.drew (u2 + 1) (some ⟨u2, 0, none⟩) 2 [R k, C k] from I2.out) (by omega) (by omega)).mono ?_; rintro e W10 ⟨rfl, hb⟩; rw [listEq_self]; have s1 := (hb.cell (p := ⟨g1, o1 + k, none⟩) hg1).trans hc1; have s2 := (hb.cell (p := ⟨g2, o2 + k, none⟩) hg2).trans hc2))
      have D := hide (HB.out.drew.trans (hb.mono hz))
      clear hb
      go_wp2
      go_roundw
      case rel => exact ⟨k + 1, _, by omega, by go_num, rfl, D⟩
      case measure => simp [intOf]; omega
    · obtain rfl : k = n := by omega
      go_wp2
      go_ret
      exact ⟨rfl, HB.out⟩
/-- the first k lists hold the numbers from k0 on -/
def mkR (k0 : Int) (k : Nat) (R : Nat → Int) (i : Nat) : Int := if i < k then k0 + 2 * i else R i
def mkC (k0 : Int) (k : Nat) (C : Nat → Int) (i : Nat) : Int := if i < k then k0 + 2 * i + 1 else C i
theorem marks_two (k0 : Int) : marks k0 2 = [k0, k0 + 1] := rfl
def MarkedP (lo hi : Nat) (A : Option Addr) (n : Nat) (gs : List Nat) (k0 : Int) (R C : Nat → Int) (w : World) (e : Ending) (w' : World) : Prop :=
  e = .returned (.int .i64 (k0 + 2 * n)) ∧ PL w' lo hi A n gs (mkR k0 n R) (mkC k0 n C) ∧ Only lo hi w w'
theorem markSS_any (lo hi : Nat) (A : Option Addr) (n c : Nat) (gs : List Nat) (R C : Nat → Int) (k0 : Int) (w : World) (h : PL w lo hi A n gs R C) (hn : n ≤ 1048576) (hk : 0 ≤ k0 ∧ k0 ≤ 1048576) :
    Calls Try.prog 22 #[.slice A n c, .int .i64 k0] w (MarkedP lo hi A n gs k0 R C w) := by
  have HS := hide (show PL w lo hi A n gs (mkR k0 0 R) (mkC k0 0 C) ∧ Only lo hi w w from ⟨h.congr (fun i _ => by simp [mkR]) (fun i _ => by simp [mkC]), Only.refl _ _ _⟩)
  clear h
  go_enter Try.func22, Try.ntmps22
  go_wp2
  go_loopw [1, 5] (fun s1 s5 wr => ∃ (k : Nat) (W9 : World), k ≤ n ∧ s1 = .int .i64 (k0 + 2 * k) ∧ s5 = .int .i64 k ∧ W9 = wr ∧ Hid (PL W9 lo hi A n gs (mkR k0 k R) (mkC k0 k C) ∧ Only lo hi w W9)) (fun _ s5 _ => n - (intOf s5).toNat)
  case atStart => exact ⟨0, w, Nat.zero_le _, by simp, rfl, rfl, HS⟩
  case round =>
    clear HS
    obtain ⟨k, W9, hk9, rfl, rfl, rfl, A9⟩ := hrel
    by_cases hlt : k < n
    · obtain ⟨HP, HO⟩ := A9.out
      obtain ⟨g, off, rfl, _, _, hcell, _⟩ := HP.out (by omega)
      obtain ⟨i1, i2, hrow⟩ := HP.inn k hlt
      have hck := hcell k hlt
      have HPP := hide HP
      have HOO := hide HO
      have HR := hide hrow
      clear HP HO hcell hrow A9
      have hu : gs.getD k 0 = gs.getD k 0 := rfl
      generalize hu2 : gs.getD k 0 = u at hck HR i1 i2
      have HU := hide hu2
      clear hu hu2
      go_wp2_with fail
      refine (markIntS_any 3 u (u + 1) (some ⟨u, 0, none⟩) 2 2 [mkR k0 k R k, mkC k0 k C k] (k0 + 2 * k) _ HR.out (by omega) (by omega)).mono ?_
      rintro e W10 ⟨rfl, hr, ho⟩
      have D := hide (show PL W10 lo hi (some ⟨g, off, none⟩) n gs (mkR k0 (k + 1) R) (mkC k0 (k + 1) C) ∧ Only lo hi w W10 from by
        refine ⟨HPP.out.marked hlt ?_ (by rw [HU.out]; exact ho) (fun i hi hne => ?_), HOO.out.trans (ho.mono i1 (by omega))⟩
        · rw [HU.out, show mkR k0 (k + 1) R k = k0 + 2 * k from if_pos (by omega), show mkC k0 (k + 1) C k = k0 + 2 * k + 1 from if_pos (by omega)]
          rw [marks_two] at hr
          exact hr
        · unfold mkR mkC
          by_cases h : i < k
          · rw [if_pos h, if_pos h, if_pos (by omega), if_pos (by omega)]; exact ⟨rfl, rfl⟩
          · rw [if_neg h, if_neg h, if_neg (by omega), if_neg (by omega)]; exact ⟨rfl, rfl⟩)
      clear hr ho
      have hw : k0 + 2 * (k : Int) + 2 = k0 + 2 * ((k + 1 : Nat) : Int) := by omega
      have HWW := hide hw
      clear hw
      go_wp2
      go_roundw
      case rel => exact ⟨k + 1, _, by omega, by rw [← HWW.out], by go_num, rfl, D⟩
      case measure => simp [intOf]; omega
    · obtain rfl : k = n := by omega
      go_wp2
      go_ret
      exact ⟨rfl, A9.out.1, A9.out.2⟩
theorem heldSS_any (lo hi : Nat) (A : Option Addr) (n c : Nat) (gs : List Nat) (R C : Nat → Int) (k0 : Int) (w : World) (h : PL w lo hi A n gs (mkR k0 n R) (mkC k0 n C)) (hn : n ≤ 1048576) (hk : 0 ≤ k0 ∧ k0 ≤ 1048576) :
    Calls Try.prog 23 #[.slice A n c, .int .i64 k0] w fun e w' => e = .returned (.int .i64 (k0 + 2 * n)) ∧ w = w' := by
  have HP := hide h
  clear h
  go_enter Try.func23, Try.ntmps23
  go_wp2
  go_loop [1, 5] (fun s1 s5 => ∃ k : Nat, k ≤ n ∧ s1 = .int .i64 (k0 + 2 * k) ∧ s5 = .int .i64 k) (fun _ s5 => n - (intOf s5).toNat)
  case atStart => exact ⟨0, Nat.zero_le _, by simp, rfl⟩
  case round =>
    obtain ⟨k, hk9, rfl, rfl⟩ := hrel
    by_cases hlt : k < n
    · obtain ⟨g, off, rfl, _, _, hcell, _⟩ := HP.out.out (by omega)
      obtain ⟨i1, i2, hrow⟩ := HP.out.inn k hlt
      have hck := hcell k hlt
      rw [show mkR k0 n R k = k0 + 2 * k from if_pos (by omega), show mkC k0 n C k = k0 + 2 * k + 1 from if_pos (by omega)] at hrow
      have HR := hide (show Ints .i64 w (gs.getD k 0 + 1) (some ⟨gs.getD k 0, 0, none⟩) 2 (marks (k0 + 2 * k) 2) from hrow.ints)
      clear hcell hrow
      generalize gs.getD k 0 = u at hck HR
      have HWW := hide (show k0 + 2 * (k : Int) + 2 = k0 + 2 * ((k + 1 : Nat) : Int) by omega)
      go_wp2_with fail
      refine (heldIntS_any (u + 1) (some ⟨u, 0, none⟩) 2 2 (k0 + 2 * k) _ HR.out (by omega) (by omega)).mono ?_
      rintro e w' ⟨rfl, rfl⟩
      go_wp2
      go_round
      case rel => exact ⟨k + 1, by omega, by rw [← HWW.out], by go_num⟩
      case measure => simp [intOf]; omega
    · obtain rfl : k = n := by omega
      go_wp2
      go_ret
      exact ⟨rfl, rfl⟩
end Go.Proofs.Ytldmnpflcnmcpaa
