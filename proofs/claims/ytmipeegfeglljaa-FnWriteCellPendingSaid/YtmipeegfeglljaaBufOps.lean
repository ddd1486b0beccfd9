/- Buffers: copied, written, exchanged. Conditions: none. -/
import Derived.Test.YtmipeegfeglljaaBuf
import Derived.Test.YtmipeegfeglljaaCopy
namespace Go.Proofs.Ytmipeegfeglljaa
open Go.RowKit
set_option linter.unusedVariables false

theorem Ints.belowDrew {k : IntKind} {w w' : World} {B B' : Nat} {a : Option Addr} {n : Nat} {xs : List Int} (h : Ints k w B a n xs) (hb : Below B' w.drew w') (hB : B ≤ B') : Ints k w' B a n xs :=
  (show Ints k w.drew B a n xs from h).below hb hB
/-- two new lists, the second behind the first -/
def TwoNew (xs ys : List Int) (w w' : World) (A : Option Addr) (n c : Nat) (B : Option Addr) (m d : Nat) : Prop :=
  n ≤ c ∧ c ≤ 9223372036854775807 ∧ m ≤ d ∧ d ≤ 9223372036854775807 ∧ Below w.heap.size w w' ∧
  ∃ mid, w.heap.size ≤ mid ∧ mid ≤ w'.heap.size ∧ Row 3 w' w.heap.size mid A n xs ∧ Row 3 w' mid w'.heap.size B m ys

/-- between the second world and the third only the call's own two blocks have turned -/
theorem twoNew_of {w w1 w2 w3 : World} {lo1 n c m d : Nat} {A B : Option Addr} {xs ys : List Int} {Q : Nat} (h1 : Row 3 w1 lo1 w1.heap.size A n xs) (h2 : Row 3 w2 w1.heap.size w2.heap.size B m ys) (hb2 : Below w1.heap.size w1 w2)
    (hlo : w.heap.size + Q ≤ lo1) (hlo1 : lo1 ≤ w1.heap.size) (hbw : Below w.heap.size w w2) (ho : Only w.heap.size (w.heap.size + Q) w2 w3) (hs : w3.heap.size = w2.heap.size)
    (a1 : n ≤ c) (a2 : c ≤ 9223372036854775807) (b1 : m ≤ d) (b2 : d ≤ 9223372036854775807) : TwoNew xs ys w w3 A n c B m d := by
  have hz := hb2.size
  have h1' := (h1.belowS hb2).far ho (.inr (by omega))
  have h2' := h2.far ho (.inr (by omega))
  exact ⟨a1, a2, b1, b2, hbw.trans (ho.below (Nat.le_refl _) (by have := hbw.size; omega)), w1.heap.size, by omega, by omega, h1'.mono (by omega) (Nat.le_refl _), h2'.mono (Nat.le_refl _) (by omega)⟩

def CopiedB (xs ys : List Int) (v : Int) (w : World) (e : Ending) (w' : World) : Prop :=
  ∃ A n c B m d, e = .returned (.agg #[.slice A n c, .slice B m d, .int .i64 v]) ∧ TwoNew xs ys w w' A n c B m d

set_option maxHeartbeats 3200000 in
theorem copyBuffers_any (K : Nat) (A : Option Addr) (n c : Nat) (B : Option Addr) (m d : Nat) (xs ys : List Int) (v : Int) (w : World) (h : Buf w K A n c B m d xs ys) (hK : K ≤ w.heap.size) :
    Calls Try.prog 32 #[.agg #[.slice A n c, .slice B m d, .int .i64 v]] w (CopiedB xs ys v w) := by
  have hb0 := hide ((((Below.refl w.heap.size w).alloc (Nat.le_refl _) (.cells #[.slice A n c, .slice B m d, .int .i64 v] 25))).alloc (by simp) (.cells #[.slice none 0 0, .slice none 0 0, .int .i64 0] 25))
  have H := hide (h.below hb0.out hK)
  clear h
  go_enter Try.func32, Try.ntmps32
  go_wp2_with fail
  go_region_held3 (fun w' => w'.cell? ⟨w.heap.size, 0, none⟩ = some (.slice A n c) ∧ w'.cell? ⟨w.heap.size, 1, none⟩ = some (.slice B m d) ∧ w'.cell? ⟨w.heap.size, 2, none⟩ = some (.int .i64 v)) (go_keep)
    (first
      | (go_at_call_of 40 (Value.slice A n c); refine (copyIntsMade_any K A n c xs _ (by exact H.out.1) (by simp; omega) (by have := H.out.2.2.1; omega)).mono ?_; rintro e w1 ⟨A1, n1, c1, rfl, a1, a2, hr1, hb1⟩; have sa0 := hb1.cell (p := ⟨w.heap.size, 0, none⟩) (by simp; omega); have sa1 := hb1.cell (p := ⟨w.heap.size, 1, none⟩) (by simp; omega); have sa2 := hb1.cell (p := ⟨w.heap.size, 2, none⟩) (by simp; omega); have sb0 := hb1.cell (p := ⟨w.heap.size + 1, 0, none⟩) (by simp); have sf0 := hb1.frozen (p := ⟨w.heap.size + 1, 0, none⟩) (by simp); have sb1 := hb1.cell (p := ⟨w.heap.size + 1, 1, none⟩) (by simp); have sf1 := hb1.frozen (p := ⟨w.heap.size + 1, 1, none⟩) (by simp); have sb2 := hb1.cell (p := ⟨w.heap.size + 1, 2, none⟩) (by simp); have sf2 := hb1.frozen (p := ⟨w.heap.size + 1, 2, none⟩) (by simp); have hz1 : w.heap.size + 2 ≤ w1.heap.size := (by have := hb1.size; simpa using this))
      | (go_at_call_of 40 (Value.slice B m d); refine (copyIntsMade_any K B m d ys _ (H.out.2.1.belowDrew hb1 (by simp; omega)) (by omega) (by have := H.out.2.2.2.1; omega)).mono ?_; rintro e w2 ⟨B1, m1, d1, rfl, b1, b2, hr2, hb2⟩; have ta0 := hb2.cell (p := ⟨w.heap.size, 0, none⟩) (by show w.heap.size < w1.heap.size; omega); have ta1 := hb2.cell (p := ⟨w.heap.size, 1, none⟩) (by show w.heap.size < w1.heap.size; omega); have ta2 := hb2.cell (p := ⟨w.heap.size, 2, none⟩) (by show w.heap.size < w1.heap.size; omega); have tb0 := hb2.cell (p := ⟨w.heap.size + 1, 0, none⟩) (by show w.heap.size + 1 < w1.heap.size; omega); have tf0 := hb2.frozen (p := ⟨w.heap.size + 1, 0, none⟩) (by show w.heap.size + 1 < w1.heap.size; omega); have tb1 := hb2.cell (p := ⟨w.heap.size + 1, 1, none⟩) (by show w.heap.size + 1 < w1.heap.size; omega); have tf1 := hb2.frozen (p := ⟨w.heap.size + 1, 1, none⟩) (by show w.heap.size + 1 < w1.heap.size; omega); have tb2 := hb2.cell (p := ⟨w.heap.size + 1, 2, none⟩) (by show w.heap.size + 1 < w1.heap.size; omega); have tf2 := hb2.frozen (p := ⟨w.heap.size + 1, 2, none⟩) (by show w.heap.size + 1 < w1.heap.size; omega)))
  have D := hide (show ∀ w3, Only w.heap.size (w.heap.size + 2) w2 w3 → w3.heap.size = w2.heap.size → CopiedB xs ys v w (.returned (.agg #[.slice A1 n1 c1, .slice B1 m1 d1, .int .i64 v])) w3 from fun w3 ho hs =>
    ⟨_, _, _, _, _, _, rfl, twoNew_of (Q := 2) hr1 hr2 hb2 (by simp) (by simp; omega) ((hb0.out.drew.trans (hb1.mono (by simp; omega))).trans (hb2.mono (by omega))) ho hs a1 a2 b1 b2⟩)
  have hz2 := hb2.size
  clear hb0 H hb1 hb2 hr1 hr2
  go_wp2
  refine bodyPost_ret (v := .agg #[.slice A1 n1 c1, .slice B1 m1 d1, .int .i64 v]) (by simp [results, Try.results32, go_sem, tb0, tb1, tb2, sb0, sb1, sb2]) rfl (D.out _ ?_ ?_)
  · exact (((Only.refl _ _ _).set (by omega) (by omega) _).set (by omega) (by omega) _).set (by omega) (by omega) _
  · simp [World.setCell]
/-- an operation's answer: two lists, a version, and whether there is one -/
structure Ans where
  xs : List Int
  ys : List Int
  v : Int
  ok : Bool
def OpB (r : Ans) (w : World) (e : Ending) (w' : World) : Prop :=
  ∃ A n c B m d, e = .returned (.tuple #[.agg #[.slice A n c, .slice B m d, .int .i64 r.v], .bool r.ok]) ∧ TwoNew r.xs r.ys w w' A n c B m d
def noAns : Ans := ⟨[], [], 0, false⟩
theorem zero_of {r : Ans} {w w1 w3 : World} {Q : Nat} (hr : r = noAns) (hb : Below w.heap.size w w1) (ho : Only w.heap.size (w.heap.size + Q) w1 w3) (hs : w3.heap.size = w1.heap.size) :
    OpB r w (.returned (.tuple #[.agg #[.slice none 0 0, .slice none 0 0, .int .i64 0], .bool false])) w3 := by
  subst hr
  have hz := hb.size
  exact ⟨none, 0, 0, none, 0, 0, rfl, Nat.le_refl _, by omega, Nat.le_refl _, by omega, hb.trans (ho.below (Nat.le_refl _) (by omega)), w.heap.size, Nat.le_refl _, by omega, Row.nil _ _ _ _ _, Row.nil _ _ _ _ _⟩
def dropS (xs ys : List Int) (v : Int) : Ans := if validB xs ys v = true then ⟨xs, xs, v, true⟩ else noAns
def swapS (xs ys : List Int) (v : Int) : Ans := if validB xs ys v = true ∧ v ≠ 1000 then ⟨ys, ys, v + 1, true⟩ else noAns
set_option maxHeartbeats 3200000 in
theorem implSwap_any (K : Nat) (A : Option Addr) (n c : Nat) (B : Option Addr) (m d : Nat) (xs ys : List Int) (v : Int) (w : World) (h : Buf w K A n c B m d xs ys) (hK : K ≤ w.heap.size) :
    Calls Try.prog 18 #[.agg #[.slice A n c, .slice B m d, .int .i64 v]] w (OpB (swapS xs ys v) w) := by
  have hb0 := hide ((((Below.refl w.heap.size w).alloc (Nat.le_refl _) (.cells #[.slice A n c, .slice B m d, .int .i64 v] 25))).alloc (by simp) (.cells #[.slice none 0 0, .slice none 0 0, .int .i64 0] 25))
  have H := hide (h.below hb0.out hK)
  clear h
  cases hv : validB xs ys v
  case false =>
    have hs := hide (show swapS xs ys v = noAns by simp [swapS, hv])
    go_enter Try.func18, Try.ntmps18
    go_wp2_with fail
    refine (implValid_any K A n c B m d xs ys v _ H.out (by simp; omega)).mono ?_
    rintro e w1 ⟨rfl, hb⟩
    have sa0 := hb.cell (p := ⟨w.heap.size, 0, none⟩) (by simp; omega)
    have sa1 := hb.cell (p := ⟨w.heap.size, 1, none⟩) (by simp; omega)
    have sa2 := hb.cell (p := ⟨w.heap.size, 2, none⟩) (by simp; omega)
    have sb0 := hb.cell (p := ⟨w.heap.size + 1, 0, none⟩) (by simp)
    have sf0 := hb.frozen (p := ⟨w.heap.size + 1, 0, none⟩) (by simp)
    have sb1 := hb.cell (p := ⟨w.heap.size + 1, 1, none⟩) (by simp)
    have sf1 := hb.frozen (p := ⟨w.heap.size + 1, 1, none⟩) (by simp)
    have sb2 := hb.cell (p := ⟨w.heap.size + 1, 2, none⟩) (by simp)
    have sf2 := hb.frozen (p := ⟨w.heap.size + 1, 2, none⟩) (by simp)
    have hz1 : w.heap.size + 2 ≤ w1.heap.size := by have := hb.size; simpa using this
    have HZ := hide (hb0.out.trans (hb.mono (by simp; omega)))
    clear hb
    go_wp2
    refine bodyPost_ret (v := .tuple #[.agg #[.slice none 0 0, .slice none 0 0, .int .i64 0], .bool false]) (by simp [results, Try.results18, go_sem, sb0, sb1, sb2]) rfl (zero_of (Q := 2) hs.out HZ.out ?_ ?_)
    · exact (((Only.refl _ _ _).set (by omega) (by omega) _).set (by omega) (by omega) _).set (by omega) (by omega) _
    · simp [World.setCell]
  case true =>
    by_cases hvm : v = 1000
    case pos =>
      subst hvm
      have hs := hide (show swapS xs ys 1000 = noAns by simp [swapS])
      go_enter Try.func18, Try.ntmps18
      go_wp2_with fail
      refine (implValid_any K A n c B m d xs ys 1000 _ H.out (by simp; omega)).mono ?_
      rintro e w1 ⟨rfl, hb⟩
      have sa0 := hb.cell (p := ⟨w.heap.size, 0, none⟩) (by simp; omega)
      have sa1 := hb.cell (p := ⟨w.heap.size, 1, none⟩) (by simp; omega)
      have sa2 := hb.cell (p := ⟨w.heap.size, 2, none⟩) (by simp; omega)
      have sb0 := hb.cell (p := ⟨w.heap.size + 1, 0, none⟩) (by simp)
      have sf0 := hb.frozen (p := ⟨w.heap.size + 1, 0, none⟩) (by simp)
      have sb1 := hb.cell (p := ⟨w.heap.size + 1, 1, none⟩) (by simp)
      have sf1 := hb.frozen (p := ⟨w.heap.size + 1, 1, none⟩) (by simp)
      have sb2 := hb.cell (p := ⟨w.heap.size + 1, 2, none⟩) (by simp)
      have sf2 := hb.frozen (p := ⟨w.heap.size + 1, 2, none⟩) (by simp)
      have hz1 : w.heap.size + 2 ≤ w1.heap.size := by have := hb.size; simpa using this
      have HZ := hide (hb0.out.trans (hb.mono (by simp; omega)))
      clear hb
      go_wp2
      refine bodyPost_ret (v := .tuple #[.agg #[.slice none 0 0, .slice none 0 0, .int .i64 0], .bool false]) (by simp [results, Try.results18, go_sem, sb0, sb1, sb2]) rfl (zero_of (Q := 2) hs.out HZ.out ?_ ?_)
      · exact (((Only.refl _ _ _).set (by omega) (by omega) _).set (by omega) (by omega) _).set (by omega) (by omega) _
      · simp [World.setCell]
    case neg =>
      have hs := hide (show swapS xs ys v = ⟨ys, ys, v + 1, true⟩ by simp [swapS, hv, hvm])
      have hvb : (v == 1000) = false := by simpa using hvm
      obtain ⟨_, _, _, _, v0, v1⟩ := validB_iff.1 hv
      have hwv : IntKind.i64.wrap (v + 1) = v + 1 := IntWalk.i64_in _ (by omega)
      have HWV := hide hwv
      clear hwv
      go_enter Try.func18, Try.ntmps18
      go_wp2_with fail
      refine (implValid_any K A n c B m d xs ys v _ H.out (by simp; omega)).mono ?_
      rintro e w1 ⟨rfl, hb⟩
      have sa0 := hb.cell (p := ⟨w.heap.size, 0, none⟩) (by simp; omega)
      have sa1 := hb.cell (p := ⟨w.heap.size, 1, none⟩) (by simp; omega)
      have sa2 := hb.cell (p := ⟨w.heap.size, 2, none⟩) (by simp; omega)
      have sb0 := hb.cell (p := ⟨w.heap.size + 1, 0, none⟩) (by simp)
      have sf0 := hb.frozen (p := ⟨w.heap.size + 1, 0, none⟩) (by simp)
      have sb1 := hb.cell (p := ⟨w.heap.size + 1, 1, none⟩) (by simp)
      have sf1 := hb.frozen (p := ⟨w.heap.size + 1, 1, none⟩) (by simp)
      have sb2 := hb.cell (p := ⟨w.heap.size + 1, 2, none⟩) (by simp)
      have sf2 := hb.frozen (p := ⟨w.heap.size + 1, 2, none⟩) (by simp)
      have hz1 : w.heap.size + 2 ≤ w1.heap.size := by have := hb.size; simpa using this
      have HZ := hide (hb0.out.trans (hb.mono (by simp; omega)))
      have HL := hide (H.out.2.1.below hb (by simp; omega))
      have hln := hide H.out.2.2.2.1
      clear hb H hb0
      go_wp2_with fail
      clear hv
      have hwv := HWV.out
      go_region_held3 (fun w' => w'.cell? ⟨w.heap.size, 1, none⟩ = some (.slice B m d) ∧ w'.cell? ⟨w.heap.size, 2, none⟩ = some (.int .i64 v)) (go_keep) (first | (go_at_call 29; refine (copyOf_any K B m d ys _ (by exact HL.out) (by simp; omega) (by have := hln.out; omega)).mono ?_; rintro e w2 ⟨A1, n1, c1, rfl, a1, a2, hr1, hb1⟩; have ta0 := hb1.cell (p := ⟨w.heap.size, 0, none⟩) (by show w.heap.size < w1.heap.size; omega); have ta1 := hb1.cell (p := ⟨w.heap.size, 1, none⟩) (by show w.heap.size < w1.heap.size; omega); have ta2 := hb1.cell (p := ⟨w.heap.size, 2, none⟩) (by show w.heap.size < w1.heap.size; omega); have tb0 := hb1.cell (p := ⟨w.heap.size + 1, 0, none⟩) (by show w.heap.size + 1 < w1.heap.size; omega); have tf0 := hb1.frozen (p := ⟨w.heap.size + 1, 0, none⟩) (by show w.heap.size + 1 < w1.heap.size; omega); have tb1 := hb1.cell (p := ⟨w.heap.size + 1, 1, none⟩) (by show w.heap.size + 1 < w1.heap.size; omega); have tf1 := hb1.frozen (p := ⟨w.heap.size + 1, 1, none⟩) (by show w.heap.size + 1 < w1.heap.size; omega); have tb2 := hb1.cell (p := ⟨w.heap.size + 1, 2, none⟩) (by show w.heap.size + 1 < w1.heap.size; omega); have tf2 := hb1.frozen (p := ⟨w.heap.size + 1, 2, none⟩) (by show w.heap.size + 1 < w1.heap.size; omega); have hz2 : w1.heap.size ≤ w2.heap.size := (by have := hb1.size; simpa using this)) | (go_at_call 29; refine (copyOf_any K B m d ys _ (HL.out.belowDrew hb1 (by simp; omega)) (by omega) (by have := hln.out; omega)).mono ?_; rintro e w3 ⟨B1, m1, d1, rfl, b1, b2, hr2, hb2⟩; have ua0 := hb2.cell (p := ⟨w.heap.size, 0, none⟩) (by show w.heap.size < w2.heap.size; omega); have ua1 := hb2.cell (p := ⟨w.heap.size, 1, none⟩) (by show w.heap.size < w2.heap.size; omega); have ua2 := hb2.cell (p := ⟨w.heap.size, 2, none⟩) (by show w.heap.size < w2.heap.size; omega); have ub0 := hb2.cell (p := ⟨w.heap.size + 1, 0, none⟩) (by show w.heap.size + 1 < w2.heap.size; omega); have uf0 := hb2.frozen (p := ⟨w.heap.size + 1, 0, none⟩) (by show w.heap.size + 1 < w2.heap.size; omega); have ub1 := hb2.cell (p := ⟨w.heap.size + 1, 1, none⟩) (by show w.heap.size + 1 < w2.heap.size; omega); have uf1 := hb2.frozen (p := ⟨w.heap.size + 1, 1, none⟩) (by show w.heap.size + 1 < w2.heap.size; omega); have ub2 := hb2.cell (p := ⟨w.heap.size + 1, 2, none⟩) (by show w.heap.size + 1 < w2.heap.size; omega); have uf2 := hb2.frozen (p := ⟨w.heap.size + 1, 2, none⟩) (by show w.heap.size + 1 < w2.heap.size; omega)))
      have D := hide (show ∀ w4, Only w.heap.size (w.heap.size + 2) w3 w4 → w4.heap.size = w3.heap.size → OpB (swapS xs ys v) w (.returned (.tuple #[.agg #[.slice A1 n1 c1, .slice B1 m1 d1, .int .i64 (v + 1)], .bool true])) w4 from fun w4 ho hs4 => by
          rw [hs.out]
          exact ⟨_, _, _, _, _, _, rfl, twoNew_of (Q := 2) hr1 hr2 hb2 (by simpa using hz1) (by simpa using hz2) (((HZ.out.drew.trans (hb1.mono (by simp; omega)))).trans (hb2.mono (by omega))) ho hs4 a1 a2 b1 b2⟩)
      have hz3 := hb2.size
      clear hb1 hb2 hr1 hr2 HL HZ
      clear hwv
      go_wp2
      refine bodyPost_ret (v := .tuple #[.agg #[.slice A1 n1 c1, .slice B1 m1 d1, .int .i64 (v + 1)], .bool true]) (by simp [results, Try.results18, go_sem, ub0, ub1, ub2, tb0, tb1, tb2, sb0, sb1, sb2]) rfl (D.out _ ?_ ?_)
      · exact (((Only.refl _ _ _).set (by omega) (by omega) _).set (by omega) (by omega) _).set (by omega) (by omega) _
      · simp [World.setCell]
set_option maxHeartbeats 3200000 in
theorem specSwap_any (K : Nat) (A : Option Addr) (n c : Nat) (B : Option Addr) (m d : Nat) (xs ys : List Int) (v : Int) (w : World) (h : Buf w K A n c B m d xs ys) (hK : K ≤ w.heap.size) :
    Calls Try.prog 20 #[.agg #[.slice A n c, .slice B m d, .int .i64 v]] w (OpB (swapS xs ys v) w) := by
  have hb0 := hide ((((Below.refl w.heap.size w).alloc (Nat.le_refl _) (.cells #[.slice A n c, .slice B m d, .int .i64 v] 25))).alloc (by simp) (.cells #[.slice none 0 0, .slice none 0 0, .int .i64 0] 25))
  have H := hide (h.below hb0.out hK)
  clear h
  cases hv : validB xs ys v
  case false =>
    have hs := hide (show swapS xs ys v = noAns by simp [swapS, hv])
    go_enter Try.func20, Try.ntmps20
    go_wp2_with fail
    refine (specValidIn_any K A n c B m d xs ys v _ H.out (by simp; omega)).mono ?_
    rintro e w1 ⟨rfl, hb⟩
    have sa0 := hb.cell (p := ⟨w.heap.size, 0, none⟩) (by simp; omega)
    have sa1 := hb.cell (p := ⟨w.heap.size, 1, none⟩) (by simp; omega)
    have sa2 := hb.cell (p := ⟨w.heap.size, 2, none⟩) (by simp; omega)
    have sb0 := hb.cell (p := ⟨w.heap.size + 1, 0, none⟩) (by simp)
    have sf0 := hb.frozen (p := ⟨w.heap.size + 1, 0, none⟩) (by simp)
    have sb1 := hb.cell (p := ⟨w.heap.size + 1, 1, none⟩) (by simp)
    have sf1 := hb.frozen (p := ⟨w.heap.size + 1, 1, none⟩) (by simp)
    have sb2 := hb.cell (p := ⟨w.heap.size + 1, 2, none⟩) (by simp)
    have sf2 := hb.frozen (p := ⟨w.heap.size + 1, 2, none⟩) (by simp)
    have hz1 : w.heap.size + 2 ≤ w1.heap.size := by have := hb.size; simpa using this
    have HZ := hide (hb0.out.trans (hb.mono (by simp; omega)))
    clear hb
    go_wp2
    refine bodyPost_ret (v := .tuple #[.agg #[.slice none 0 0, .slice none 0 0, .int .i64 0], .bool false]) (by simp [results, Try.results20, go_sem, sb0, sb1, sb2]) rfl (zero_of (Q := 2) hs.out HZ.out ?_ ?_)
    · exact (((Only.refl _ _ _).set (by omega) (by omega) _).set (by omega) (by omega) _).set (by omega) (by omega) _
    · simp [World.setCell]
  case true =>
    by_cases hvm : v = 1000
    case pos =>
      subst hvm
      have hs := hide (show swapS xs ys 1000 = noAns by simp [swapS])
      go_enter Try.func20, Try.ntmps20
      go_wp2_with fail
      refine (specValidIn_any K A n c B m d xs ys 1000 _ H.out (by simp; omega)).mono ?_
      rintro e w1 ⟨rfl, hb⟩
      have sa0 := hb.cell (p := ⟨w.heap.size, 0, none⟩) (by simp; omega)
      have sa1 := hb.cell (p := ⟨w.heap.size, 1, none⟩) (by simp; omega)
      have sa2 := hb.cell (p := ⟨w.heap.size, 2, none⟩) (by simp; omega)
      have sb0 := hb.cell (p := ⟨w.heap.size + 1, 0, none⟩) (by simp)
      have sf0 := hb.frozen (p := ⟨w.heap.size + 1, 0, none⟩) (by simp)
      have sb1 := hb.cell (p := ⟨w.heap.size + 1, 1, none⟩) (by simp)
      have sf1 := hb.frozen (p := ⟨w.heap.size + 1, 1, none⟩) (by simp)
      have sb2 := hb.cell (p := ⟨w.heap.size + 1, 2, none⟩) (by simp)
      have sf2 := hb.frozen (p := ⟨w.heap.size + 1, 2, none⟩) (by simp)
      have hz1 : w.heap.size + 2 ≤ w1.heap.size := by have := hb.size; simpa using this
      have HZ := hide (hb0.out.trans (hb.mono (by simp; omega)))
      clear hb
      go_wp2
      refine bodyPost_ret (v := .tuple #[.agg #[.slice none 0 0, .slice none 0 0, .int .i64 0], .bool false]) (by simp [results, Try.results20, go_sem, sb0, sb1, sb2]) rfl (zero_of (Q := 2) hs.out HZ.out ?_ ?_)
      · exact (((Only.refl _ _ _).set (by omega) (by omega) _).set (by omega) (by omega) _).set (by omega) (by omega) _
      · simp [World.setCell]
    case neg =>
      have hs := hide (show swapS xs ys v = ⟨ys, ys, v + 1, true⟩ by simp [swapS, hv, hvm])
      have hvb : (v == 1000) = false := by simpa using hvm
      obtain ⟨_, _, _, _, v0, v1⟩ := validB_iff.1 hv
      have hwv : IntKind.i64.wrap (v + 1) = v + 1 := IntWalk.i64_in _ (by omega)
      have HWV := hide hwv
      clear hwv
      go_enter Try.func20, Try.ntmps20
      go_wp2_with fail
      refine (specValidIn_any K A n c B m d xs ys v _ H.out (by simp; omega)).mono ?_
      rintro e w1 ⟨rfl, hb⟩
      have sa0 := hb.cell (p := ⟨w.heap.size, 0, none⟩) (by simp; omega)
      have sa1 := hb.cell (p := ⟨w.heap.size, 1, none⟩) (by simp; omega)
      have sa2 := hb.cell (p := ⟨w.heap.size, 2, none⟩) (by simp; omega)
      have sb0 := hb.cell (p := ⟨w.heap.size + 1, 0, none⟩) (by simp)
      have sf0 := hb.frozen (p := ⟨w.heap.size + 1, 0, none⟩) (by simp)
      have sb1 := hb.cell (p := ⟨w.heap.size + 1, 1, none⟩) (by simp)
      have sf1 := hb.frozen (p := ⟨w.heap.size + 1, 1, none⟩) (by simp)
      have sb2 := hb.cell (p := ⟨w.heap.size + 1, 2, none⟩) (by simp)
      have sf2 := hb.frozen (p := ⟨w.heap.size + 1, 2, none⟩) (by simp)
      have hz1 : w.heap.size + 2 ≤ w1.heap.size := by have := hb.size; simpa using this
      have HZ := hide (hb0.out.trans (hb.mono (by simp; omega)))
      have HL := hide (H.out.2.1.below hb (by simp; omega))
      have hln := hide H.out.2.2.2.1
      clear hb H hb0
      go_wp2_with fail
      clear hv
      have hwv := HWV.out
      go_region_held3 (fun w' => w'.cell? ⟨w.heap.size, 1, none⟩ = some (.slice B m d) ∧ w'.cell? ⟨w.heap.size, 2, none⟩ = some (.int .i64 v)) (go_keep) (first | (go_at_call 40; refine (copyIntsMade_any K B m d ys _ (by exact HL.out) (by simp; omega) (by have := hln.out; omega)).mono ?_; rintro e w2 ⟨A1, n1, c1, rfl, a1, a2, hr1, hb1⟩; have ta0 := hb1.cell (p := ⟨w.heap.size, 0, none⟩) (by show w.heap.size < w1.heap.size; omega); have ta1 := hb1.cell (p := ⟨w.heap.size, 1, none⟩) (by show w.heap.size < w1.heap.size; omega); have ta2 := hb1.cell (p := ⟨w.heap.size, 2, none⟩) (by show w.heap.size < w1.heap.size; omega); have tb0 := hb1.cell (p := ⟨w.heap.size + 1, 0, none⟩) (by show w.heap.size + 1 < w1.heap.size; omega); have tf0 := hb1.frozen (p := ⟨w.heap.size + 1, 0, none⟩) (by show w.heap.size + 1 < w1.heap.size; omega); have tb1 := hb1.cell (p := ⟨w.heap.size + 1, 1, none⟩) (by show w.heap.size + 1 < w1.heap.size; omega); have tf1 := hb1.frozen (p := ⟨w.heap.size + 1, 1, none⟩) (by show w.heap.size + 1 < w1.heap.size; omega); have tb2 := hb1.cell (p := ⟨w.heap.size + 1, 2, none⟩) (by show w.heap.size + 1 < w1.heap.size; omega); have tf2 := hb1.frozen (p := ⟨w.heap.size + 1, 2, none⟩) (by show w.heap.size + 1 < w1.heap.size; omega); have hz2 : w1.heap.size ≤ w2.heap.size := (by have := hb1.size; simpa using this)) | (go_at_call 40; refine (copyIntsMade_any K B m d ys _ (HL.out.belowDrew hb1 (by simp; omega)) (by omega) (by have := hln.out; omega)).mono ?_; rintro e w3 ⟨B1, m1, d1, rfl, b1, b2, hr2, hb2⟩; have ua0 := hb2.cell (p := ⟨w.heap.size, 0, none⟩) (by show w.heap.size < w2.heap.size; omega); have ua1 := hb2.cell (p := ⟨w.heap.size, 1, none⟩) (by show w.heap.size < w2.heap.size; omega); have ua2 := hb2.cell (p := ⟨w.heap.size, 2, none⟩) (by show w.heap.size < w2.heap.size; omega); have ub0 := hb2.cell (p := ⟨w.heap.size + 1, 0, none⟩) (by show w.heap.size + 1 < w2.heap.size; omega); have uf0 := hb2.frozen (p := ⟨w.heap.size + 1, 0, none⟩) (by show w.heap.size + 1 < w2.heap.size; omega); have ub1 := hb2.cell (p := ⟨w.heap.size + 1, 1, none⟩) (by show w.heap.size + 1 < w2.heap.size; omega); have uf1 := hb2.frozen (p := ⟨w.heap.size + 1, 1, none⟩) (by show w.heap.size + 1 < w2.heap.size; omega); have ub2 := hb2.cell (p := ⟨w.heap.size + 1, 2, none⟩) (by show w.heap.size + 1 < w2.heap.size; omega); have uf2 := hb2.frozen (p := ⟨w.heap.size + 1, 2, none⟩) (by show w.heap.size + 1 < w2.heap.size; omega)))
      have D := hide (show ∀ w4, Only w.heap.size (w.heap.size + 2) w3 w4 → w4.heap.size = w3.heap.size → OpB (swapS xs ys v) w (.returned (.tuple #[.agg #[.slice A1 n1 c1, .slice B1 m1 d1, .int .i64 (v + 1)], .bool true])) w4 from fun w4 ho hs4 => by
          rw [hs.out]
          exact ⟨_, _, _, _, _, _, rfl, twoNew_of (Q := 2) hr1 hr2 hb2 (by simpa using hz1) (by simpa using hz2) (((HZ.out.drew.trans (hb1.mono (by simp; omega)))).trans (hb2.mono (by omega))) ho hs4 a1 a2 b1 b2⟩)
      have hz3 := hb2.size
      clear hb1 hb2 hr1 hr2 HL HZ
      clear hwv
      go_wp2
      refine bodyPost_ret (v := .tuple #[.agg #[.slice A1 n1 c1, .slice B1 m1 d1, .int .i64 (v + 1)], .bool true]) (by simp [results, Try.results20, go_sem, ub0, ub1, ub2, tb0, tb1, tb2, sb0, sb1, sb2]) rfl (D.out _ ?_ ?_)
      · exact (((Only.refl _ _ _).set (by omega) (by omega) _).set (by omega) (by omega) _).set (by omega) (by omega) _
      · simp [World.setCell]
end Go.Proofs.Ytmipeegfeglljaa
