/- Buffers: copied, written, exchanged. Conditions: none. -/
import Derived.Test.YtjaagekckbjhdaaBuf
import Derived.Test.YtjaagekckbjhdaaCopy
namespace Go.Proofs.Ytjaagekckbjhdaa
open Go.RowKit
set_option linter.unusedVariables false

theorem Ints.belowDrew {k : IntKind} {w w' : World} {B B' : Nat} {a : Option Addr} {n : Nat} {xs : List Int} (h : Ints k w B a n xs) (hb : Below B' w.drew w') (hB : B ≤ B') : Ints k w' B a n xs :=
  (show Ints k w.drew B a n xs from h).below hb hB
/-- two new lists, the second behind the first -/
def TwoNew (xs ys : List Int) (w w' : World) (A : Option Addr) (n c : Nat) (B : Option Addr) (m d : Nat) : Prop :=
  n ≤ c ∧ c ≤ 9223372036854775807 ∧ m ≤ d ∧ d ≤ 9223372036854775807 ∧ Below w.heap.size w w' ∧
  ∃ mid, w.heap.size ≤ mid ∧ mid ≤ w'.heap.size ∧ Row 3 w' w.heap.size mid A n xs ∧ Row 3 w' mid w'.heap.size B m ys

/-- between the second world and the third only the call's own two blocks have turned -/
theorem twoNew_of {w w1 w2 w3 : World} {lo1 n c m d : Nat} {A B : Option Addr} {xs ys : List Int} {Q : Nat} (h1 : Row 3 w1 lo1 w1.heap.size A n xs) (h2 : Row 3 w2 w1.heap.size w2.heap.size B m ys) (hb2 : Below w1.heap.size w1 w2)
    (hlo : w.heap.size + Q ≤ lo1) (hlo1 : lo1 ≤ w1.heap.size) (hbw : Below w.heap.size w w2) (ho : Only w.heap.size (w.heap.size + Q) w2 w3) (hs : w3.heap.size = w2.heap.size)
    (a1 : n ≤ c) (a2 : c ≤ 9223372036854775807) (b1 : m ≤ d) (b2 : d ≤ 9223372036854775807) : TwoNew xs ys w w3 A n c B m d := by
  have hz := hb2.size
  have h1' := (h1.belowS hb2).far ho (.inr (by omega))
  have h2' := h2.far ho (.inr (by omega))
  exact ⟨a1, a2, b1, b2, hbw.trans (ho.below (Nat.le_refl _) (by have := hbw.size; omega)), w1.heap.size, by omega, by omega, h1'.mono (by omega) (Nat.le_refl _), h2'.mono (Nat.le_refl _) (by omega)⟩

/-- an operation's answer: two lists, a version, and whether there is one -/
structure Ans where
  xs : List Int
  ys : List Int
  v : Int
  ok : Bool
def OpB (r : Ans) (w : World) (e : Ending) (w' : World) : Prop :=
  ∃ A n c B m d, e = .returned (.tuple #[.agg #[.slice A n c, .slice B m d, .int .i64 r.v], .bool r.ok]) ∧ TwoNew r.xs r.ys w w' A n c B m d
def noAns : Ans := ⟨[], [], 0, false⟩
theorem zero_of {r : Ans} {w w1 w3 : World} {Q : Nat} (hr : r = noAns) (hb : Below w.heap.size w w1) (ho : Only w.heap.size (w.heap.size + Q) w1 w3) (hs : w3.heap.size = w1.heap.size) :
    OpB r w (.returned (.tuple #[.agg #[.slice none 0 0, .slice none 0 0, .int .i64 0], .bool false])) w3 := by
  subst hr
  have hz := hb.size
  exact ⟨none, 0, 0, none, 0, 0, rfl, Nat.le_refl _, by omega, Nat.le_refl _, by omega, hb.trans (ho.below (Nat.le_refl _) (by omega)), w.heap.size, Nat.le_refl _, by omega, Row.nil _ _ _ _ _, Row.nil _ _ _ _ _⟩
def dropS (xs ys : List Int) (v : Int) : Ans := if validB xs ys v = true then ⟨xs, xs, v, true⟩ else noAns
def swapS (xs ys : List Int) (v : Int) : Ans := if validB xs ys v = true ∧ v ≠ 1000 then ⟨ys, ys, v + 1, true⟩ else noAns
set_option maxHeartbeats 3200000 in
theorem implDrop_any (K : Nat) (A : Option Addr) (n c : Nat) (B : Option Addr) (m d : Nat) (xs ys : List Int) (v : Int) (w : World) (h : Buf w K A n c B m d xs ys) (hK : K ≤ w.heap.size) :
    Calls Try.prog 18 #[.agg #[.slice A n c, .slice B m d, .int .i64 v]] w (OpB (dropS xs ys v) w) := by
  have hb0 := hide ((((Below.refl w.heap.size w).alloc (Nat.le_refl _) (.cells #[.slice A n c, .slice B m d, .int .i64 v] 27))).alloc (by simp) (.cells #[.slice none 0 0, .slice none 0 0, .int .i64 0] 27))
  have H := hide (h.below hb0.out hK)
  clear h
  cases hv : validB xs ys v
  case false =>
    have hs := hide (show dropS xs ys v = noAns by simp [dropS, hv])
    go_enter Try.func18, Try.ntmps18
    go_wp2_with fail
    refine (implValid_any K A n c B m d xs ys v _ H.out (by simp; omega)).mono ?_
    rintro e w1 ⟨rfl, hb⟩
    have sa0 := hb.cell (p := ⟨w.heap.size, 0, none⟩) (by simp; omega)
    have sa1 := hb.cell (p := ⟨w.heap.size, 1, none⟩) (by simp; omega)
    have sa2 := hb.cell (p := ⟨w.heap.size, 2, none⟩) (by simp; omega)
    have sb0 := hb.cell (p := ⟨w.heap.size + 1, 0, none⟩) (by simp)
    have sf0 := hb.frozen (p := ⟨w.heap.size + 1, 0, none⟩) (by simp)
    have sb1 := hb.cell (p := ⟨w.heap.size + 1, 1, none⟩) (by simp)
    have sf1 := hb.frozen (p := ⟨w.heap.size + 1, 1, none⟩) (by simp)
    have sb2 := hb.cell (p := ⟨w.heap.size + 1, 2, none⟩) (by simp)
    have sf2 := hb.frozen (p := ⟨w.heap.size + 1, 2, none⟩) (by simp)
    have hz1 : w.heap.size + 2 ≤ w1.heap.size := by have := hb.size; simpa using this
    have HZ := hide (hb0.out.trans (hb.mono (by simp; omega)))
    clear hb
    go_wp2
    refine bodyPost_ret (v := .tuple #[.agg #[.slice none 0 0, .slice none 0 0, .int .i64 0], .bool false]) (by simp [results, Try.results18, go_sem, sb0, sb1, sb2]) rfl (zero_of (Q := 2) hs.out HZ.out ?_ ?_)
    · exact (((Only.refl _ _ _).set (by omega) (by omega) _).set (by omega) (by omega) _).set (by omega) (by omega) _
    · simp [World.setCell]
  case true =>
    have hs := hide (show dropS xs ys v = ⟨xs, xs, v, true⟩ by simp [dropS, hv])
    go_enter Try.func18, Try.ntmps18
    go_wp2_with fail
    refine (implValid_any K A n c B m d xs ys v _ H.out (by simp; omega)).mono ?_
    rintro e w1 ⟨rfl, hb⟩
    have sa0 := hb.cell (p := ⟨w.heap.size, 0, none⟩) (by simp; omega)
    have sa1 := hb.cell (p := ⟨w.heap.size, 1, none⟩) (by simp; omega)
    have sa2 := hb.cell (p := ⟨w.heap.size, 2, none⟩) (by simp; omega)
    have sb0 := hb.cell (p := ⟨w.heap.size + 1, 0, none⟩) (by simp)
    have sf0 := hb.frozen (p := ⟨w.heap.size + 1, 0, none⟩) (by simp)
    have sb1 := hb.cell (p := ⟨w.heap.size + 1, 1, none⟩) (by simp)
    have sf1 := hb.frozen (p := ⟨w.heap.size + 1, 1, none⟩) (by simp)
    have sb2 := hb.cell (p := ⟨w.heap.size + 1, 2, none⟩) (by simp)
    have sf2 := hb.frozen (p := ⟨w.heap.size + 1, 2, none⟩) (by simp)
    have hz1 : w.heap.size + 2 ≤ w1.heap.size := by have := hb.size; simpa using this
    have HZ := hide (hb0.out.trans (hb.mono (by simp; omega)))
    have HL := hide (H.out.1.below hb (by simp; omega))
    have hln := hide H.out.2.2.1
    clear hb H hb0
    go_wp2_with fail
    clear hv
    go_region_held3 (fun w' => w'.cell? ⟨w.heap.size, 0, none⟩ = some (.slice A n c) ∧ w'.cell? ⟨w.heap.size, 2, none⟩ = some (.int .i64 v)) (go_keep) (first | (go_at_call 39; refine (copyOf_any K A n c xs _ (by exact HL.out) (by simp; omega) (by have := hln.out; omega)).mono ?_; rintro e w2 ⟨A1, n1, c1, rfl, a1, a2, hr1, hb1⟩; have ta0 := hb1.cell (p := ⟨w.heap.size, 0, none⟩) (by show w.heap.size < w1.heap.size; omega); have ta1 := hb1.cell (p := ⟨w.heap.size, 1, none⟩) (by show w.heap.size < w1.heap.size; omega); have ta2 := hb1.cell (p := ⟨w.heap.size, 2, none⟩) (by show w.heap.size < w1.heap.size; omega); have tb0 := hb1.cell (p := ⟨w.heap.size + 1, 0, none⟩) (by show w.heap.size + 1 < w1.heap.size; omega); have tf0 := hb1.frozen (p := ⟨w.heap.size + 1, 0, none⟩) (by show w.heap.size + 1 < w1.heap.size; omega); have tb1 := hb1.cell (p := ⟨w.heap.size + 1, 1, none⟩) (by show w.heap.size + 1 < w1.heap.size; omega); have tf1 := hb1.frozen (p := ⟨w.heap.size + 1, 1, none⟩) (by show w.heap.size + 1 < w1.heap.size; omega); have tb2 := hb1.cell (p := ⟨w.heap.size + 1, 2, none⟩) (by show w.heap.size + 1 < w1.heap.size; omega); have tf2 := hb1.frozen (p := ⟨w.heap.size + 1, 2, none⟩) (by show w.heap.size + 1 < w1.heap.size; omega); have hz2 : w1.heap.size ≤ w2.heap.size := (by have := hb1.size; simpa using this)) | (go_at_call 39; refine (copyOf_any K A n c xs _ (HL.out.belowDrew hb1 (by simp; omega)) (by omega) (by have := hln.out; omega)).mono ?_; rintro e w3 ⟨B1, m1, d1, rfl, b1, b2, hr2, hb2⟩; have ua0 := hb2.cell (p := ⟨w.heap.size, 0, none⟩) (by show w.heap.size < w2.heap.size; omega); have ua1 := hb2.cell (p := ⟨w.heap.size, 1, none⟩) (by show w.heap.size < w2.heap.size; omega); have ua2 := hb2.cell (p := ⟨w.heap.size, 2, none⟩) (by show w.heap.size < w2.heap.size; omega); have ub0 := hb2.cell (p := ⟨w.heap.size + 1, 0, none⟩) (by show w.heap.size + 1 < w2.heap.size; omega); have uf0 := hb2.frozen (p := ⟨w.heap.size + 1, 0, none⟩) (by show w.heap.size + 1 < w2.heap.size; omega); have ub1 := hb2.cell (p := ⟨w.heap.size + 1, 1, none⟩) (by show w.heap.size + 1 < w2.heap.size; omega); have uf1 := hb2.frozen (p := ⟨w.heap.size + 1, 1, none⟩) (by show w.heap.size + 1 < w2.heap.size; omega); have ub2 := hb2.cell (p := ⟨w.heap.size + 1, 2, none⟩) (by show w.heap.size + 1 < w2.heap.size; omega); have uf2 := hb2.frozen (p := ⟨w.heap.size + 1, 2, none⟩) (by show w.heap.size + 1 < w2.heap.size; omega)))
    have D := hide (show ∀ w4, Only w.heap.size (w.heap.size + 2) w3 w4 → w4.heap.size = w3.heap.size → OpB (dropS xs ys v) w (.returned (.tuple #[.agg #[.slice A1 n1 c1, .slice B1 m1 d1, .int .i64 v], .bool true])) w4 from fun w4 ho hs4 => by
        rw [hs.out]
        exact ⟨_, _, _, _, _, _, rfl, twoNew_of (Q := 2) hr1 hr2 hb2 (by simpa using hz1) (by simpa using hz2) (((HZ.out.drew.trans (hb1.mono (by simp; omega)))).trans (hb2.mono (by omega))) ho hs4 a1 a2 b1 b2⟩)
    have hz3 := hb2.size
    clear hb1 hb2 hr1 hr2 HL HZ
    go_wp2
    refine bodyPost_ret (v := .tuple #[.agg #[.slice A1 n1 c1, .slice B1 m1 d1, .int .i64 v], .bool true]) (by simp [results, Try.results18, go_sem, ub0, ub1, ub2, tb0, tb1, tb2, sb0, sb1, sb2]) rfl (D.out _ ?_ ?_)
    · exact (((Only.refl _ _ _).set (by omega) (by omega) _).set (by omega) (by omega) _).set (by omega) (by omega) _
    · simp [World.setCell]
end Go.Proofs.Ytjaagekckbjhdaa
