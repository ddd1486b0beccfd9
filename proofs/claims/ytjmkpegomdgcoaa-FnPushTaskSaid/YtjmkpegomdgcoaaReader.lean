/- The reader of codes: pick gives a number in its range, one an element of its list; only the reader's own block turns. Conditions: none. -/
import Derived.Test.YtjmkpegomdgcoaaMem
import Derived.Deep.QuietTactic
import Derived.BigQuiet
import Derived.Laws.BitsAllLaws
namespace Go.Proofs.Ytjmkpegomdgcoaa
open Go.RowKit

/-- the reader in block R: it has handed out at most p numbers -/
def Rd (w : World) (R p : Nat) : Prop :=
  ∃ (A : Option Addr) (n c q : Nat) (zs : List Int), q ≤ p ∧ n ≤ 2000 ∧ w.heap[R]? = some (.cells #[.slice A n c, .int .i64 q] 58 (0, 0)) ∧ Ints .u8 w R A n zs

/-- some number that p bears is handed back, the reader goes on, only its block has turned -/
def Draws (R p : Nat) (P : Int → Prop) (w : World) (e : Ending) (w' : World) : Prop :=
  ∃ n : Int, P n ∧ e = .returned (.int .i64 n) ∧ Rd w' R p ∧ w.grownBy w' (some R)

def inPick (n : Int) (k : Int) : Prop := 0 ≤ k ∧ (1 ≤ n → k < n) ∧ (n < 1 → k = 0)

theorem rd_cell0 {w : World} {R : Nat} {u v : Value} (h : w.heap[R]? = some (.cells #[u, v] 58 (0, 0))) : w.cell? ⟨R, 0, none⟩ = some u ∧ w.cell? ⟨R, 1, none⟩ = some v ∧ w.frozen? ⟨R, 1, none⟩ = false := by
  refine ⟨?_, ?_, ?_⟩ <;> simp [World.cell?, World.frozen?, h]

theorem rd_set {w : World} {R p q n c : Nat} {A : Option Addr} {zs : List Int} {v : Value} (hq : q ≤ p) (hm : n ≤ 2000) (hb : w.heap[R]? = some (.cells #[.slice A n c, v] 58 (0, 0))) (hA : Ints .u8 w R A n zs) :
    Rd (w.setCell ⟨R, 1, none⟩ (.int .i64 (q : Int))) R p := by
  refine ⟨A, n, c, q, zs, hq, hm, ?_, hA.keep fun b o hlt => World.cell?_of_block (w := w) (Below.heap_setCell w _ _ b (by show b ≠ R; omega))⟩
  have hlt : R < w.heap.size := by
    rcases Nat.lt_or_ge R w.heap.size with h | h
    · exact h
    · rw [Array.getElem?_eq_none h] at hb; cases hb
  simp [World.setCell, Array.getElem?_modify, hb]
theorem Rd.drewN {w : World} {R p : Nat} (h : Rd w R p) (n : Nat) : Rd (w.drewN n) R p := h

theorem draws_set {w : World} {R p q n c : Nat} {A : Option Addr} {zs : List Int} {v : Value} {P : Int → Prop} {k : Int} (hq : q ≤ p) (hm : n ≤ 2000) (hb : w.heap[R]? = some (.cells #[.slice A n c, v] 58 (0, 0))) (hA : Ints .u8 w R A n zs)
    (hk : P k) (d : Nat) : Draws R p P w (.returned (.int .i64 k)) ((w.setCell ⟨R, 1, none⟩ (.int .i64 (q : Int))).drewN d) :=
  ⟨k, hk, rfl, (rd_set hq hm hb hA).drewN d, only_drewN (only_set _ _ _ _) d⟩

theorem ofInt_i64 (a : Nat) (ha : a < 9223372036854775808) : (BitVec.ofInt 64 (a : Int)).toNat = a := by
  rw [BitVec.ofInt_natCast, BitVec.toNat_ofNat]; exact Nat.mod_eq_of_lt (by omega)
theorem i64_xor_nat (a b : Nat) (ha : a < 9223372036854775808) (hb : b < 9223372036854775808) : bits .xor .i64 (a : Int) (b : Int) = ((a ^^^ b : Nat) : Int) := by
  have hx : a ^^^ b < 2 ^ 63 := Nat.xor_lt_two_pow (by omega) (by omega)
  show IntKind.i64.wrap ((BitVec.ofInt 64 (a : Int) ^^^ BitVec.ofInt 64 (b : Int)).toNat : Int) = _
  rw [BitVec.toNat_xor, ofInt_i64 a ha, ofInt_i64 b hb, IntKind.wrap_i64]
  omega
theorem pick_val (x n : Int) (h0 : 0 ≤ x) (h1 : x ≤ 1000000000) (hn : 1 ≤ n) : inPick n ((bits BinOp.xor IntKind.i64 x (x / 64)).tmod n) := by
  obtain ⟨a, rfl⟩ := Int.eq_ofNat_of_zero_le h0
  rw [show ((a : Int) / 64) = ((a / 64 : Nat) : Int) from rfl, i64_xor_nat a (a / 64) (by omega) (by omega), Int.tmod_eq_emod_of_nonneg (by omega)]
  exact ⟨Int.emod_nonneg _ (by omega), fun _ => Int.emod_lt_of_pos _ (by omega), fun h => by omega⟩

theorem pick_any (R p : Nat) (n : Int) (w : World) (h : Rd w R p) (hp : p ≤ 1000000) (hn : n ≤ 1000000) (hn' : -1000000 ≤ n) :
    Calls Try.prog 37 #[.pointer (some ⟨R, 0, none⟩), .int .i64 n] w (Draws R (p + 1) (inPick n) w) := by
  obtain ⟨A, m, c, q, zs, hq, hm, hb, hA⟩ := h
  obtain ⟨hc0, hc1, hf⟩ := rd_cell0 hb
  have D := fun (k : Int) (hk : inPick n k) (d : Nat) => hide (draws_set (w := w) (P := inPick n) (q := q + 1) (p := p + 1) (by omega) hm hb hA hk d)
  by_cases hn1 : n < 1
  · go_enter Try.func37, Try.ntmps37
    go_wp2
    go_ret
    exact (D 0 ⟨by omega, by omega, by omega⟩ 0).out
  · have hlt : (fun w => Rd w R p) w → 1 ≤ n := fun _ => by omega
    by_cases hm0 : m = 0
    · subst hm0
      go_enter Try.func37, Try.ntmps37
      go_wp2
      go_ret
      exact (D 0 ⟨by omega, by omega, by omega⟩ 0).out
    · have hm1 : ((m : Int) == 0) = false := by simp; omega
      have hm2 : 0 < m := by omega
      obtain ⟨hz, hw0, hA'⟩ := hA
      have hw := hw0 rfl
      clear hw0
      obtain ⟨b, off, rfl, hbR, hcell⟩ := hA' hm2
      clear hA'
      by_cases hqm : q < m
      · have hcq := hcell q hqm
        obtain ⟨hz0, hz1⟩ := byte_at hz hw q hqm
        generalize zs.getD q 0 = z at hcq hz0 hz1
        have hr0 := Int.emod_nonneg z (show n ≠ 0 by omega)
        have hr1 := Int.emod_lt_of_pos z (show 0 < n by omega)
        have D0 := D (z % n) ⟨hr0, fun _ => hr1, fun h => by omega⟩ 0
        clear hcell D hlt hr0 hr1
        go_enter Try.func37, Try.ntmps37
        go_wp2
        go_ret
        exact D0.out
      · obtain ⟨i1, hi1, e1⟩ : ∃ i : Nat, i < m ∧ (q : Int).tmod (m : Int) = (i : Int) := ⟨q % m, Nat.mod_lt _ hm2, by rw [Int.tmod_eq_emod_of_nonneg (by omega)]; rfl⟩
        obtain ⟨i2, hi2, e2⟩ : ∃ i : Nat, i < m ∧ ((q : Int) * 7 + 3).tmod (m : Int) = (i : Int) := ⟨(q * 7 + 3) % m, Nat.mod_lt _ hm2, by rw [Int.tmod_eq_emod_of_nonneg (by omega)]; rfl⟩
        obtain ⟨d, hd, e3⟩ : ∃ d : Nat, d ≤ q ∧ (q : Int).tdiv (m : Int) = (d : Int) := ⟨q / m, Nat.div_le_self _ _, by rw [Int.tdiv_eq_ediv_of_nonneg (by omega)]; rfl⟩
        have hc1' := hcell _ hi1
        have hc2' := hcell _ hi2
        obtain ⟨hz0, hz1⟩ := byte_at hz hw _ hi1
        obtain ⟨hy0, hy1⟩ := byte_at hz hw _ hi2
        generalize zs.getD i1 0 = z at hc1' hz0 hz1
        generalize zs.getD i2 0 = y at hc2' hy0 hy1
        have E1 := hide e1
        have E2 := hide e2
        have E3 := hide e3
        clear hcell e1 e2 e3 hlt
        go_enter Try.func37, Try.ntmps37
        go_wp2
        have a1 : IntKind.i64.wrap ((q : Int) * 7) = (q : Int) * 7 := IntWalk.i64_in _ (by omega)
        have a2 : IntKind.i64.wrap ((q : Int) * 7 + 3) = (q : Int) * 7 + 3 := IntWalk.i64_in _ (by omega)
        have a3 : IntKind.i64.wrap (z * 131) = z * 131 := IntWalk.i64_in _ (by omega)
        have a4 : IntKind.i64.wrap (y * 1117) = y * 1117 := IntWalk.i64_in _ (by omega)
        have a5 : IntKind.i64.wrap (z * 131 + y * 1117) = z * 131 + y * 1117 := IntWalk.i64_in _ (by omega)
        have a6 : IntKind.i64.wrap ((q : Int) * 29) = (q : Int) * 29 := IntWalk.i64_in _ (by omega)
        have a7 : IntKind.i64.wrap (z * 131 + y * 1117 + (q : Int) * 29) = z * 131 + y * 1117 + (q : Int) * 29 := IntWalk.i64_in _ (by omega)
        have a8 : IntKind.i64.wrap ((d : Int) * 53) = (d : Int) * 53 := IntWalk.i64_in _ (by omega)
        have a9 : IntKind.i64.wrap (z * 131 + y * 1117 + (q : Int) * 29 + (d : Int) * 53) = z * 131 + y * 1117 + (q : Int) * 29 + (d : Int) * 53 := IntWalk.i64_in _ (by omega)
        have b1 : (i1 : Int) < (m : Int) := by omega
        have b2 : (i2 : Int) < (m : Int) := by omega
        have b3 : (0 : Int) ≤ (i1 : Int) := by omega
        have b4 : (0 : Int) ≤ (i2 : Int) := by omega
        have e1 := E1.out
        have e2 := E2.out
        have e3 := E3.out
        go_quiet (fail)
        clear a1 a2 a3 a4 a5 a6 a7 a8 a9 e1 e2 e3
        have hx0 : 0 ≤ z * 131 + y * 1117 + (q : Int) * 29 + (d : Int) * 53 := by omega
        have hx1 : z * 131 + y * 1117 + (q : Int) * 29 + (d : Int) * 53 ≤ 1000000000 := by omega
        generalize z * 131 + y * 1117 + (q : Int) * 29 + (d : Int) * 53 = x at hx0 hx1 ⊢
        clear b1 b2 b3 b4 E1 E2 E3 hc1' hc2' hz0 hz1 hy0 hy1
        go_wp2
        go_ret
        exact (D _ (pick_val x n hx0 hx1 hn1) nq).out
end Go.Proofs.Ytjmkpegomdgcoaa
