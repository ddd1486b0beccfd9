/- Buffers: a cell written, read; the cells that differ. Conditions: none. -/
import Derived.Test.YtjaagekckbjhdaaBufOps
namespace Go.Proofs.Ytjaagekckbjhdaa
open Go.RowKit
set_option linter.unusedVariables false

theorem cell_set3 {w : World} {g b o : Nat} {u0 u1 u2 v : Value} (h : w.cell? ⟨b, o, none⟩ = some v) (hne : b ≠ g) : (((w.setCell ⟨g, 0, none⟩ u0).setCell ⟨g, 1, none⟩ u1).setCell ⟨g, 2, none⟩ u2).cell? ⟨b, o, none⟩ = some v := by
  rw [World.cell?_setCell_other _ _ _ _ (by intro e; injection e with e; exact hne e.symm), World.cell?_setCell_other _ _ _ _ (by intro e; injection e with e; exact hne e.symm), World.cell?_setCell_other _ _ _ _ (by intro e; injection e with e; exact hne e.symm), h]
theorem block_set3 {w : World} {g : Nat} {T : TypeId} {z0 z1 z2 u0 u1 u2 : Value} (h : w.heap[g]? = some (.cells #[z0, z1, z2] T (0, 0))) : (((w.setCell ⟨g, 0, none⟩ u0).setCell ⟨g, 1, none⟩ u1).setCell ⟨g, 2, none⟩ u2).heap[g]? = some (.cells #[u0, u1, u2] T (0, 0)) := by
  simp [World.setCell, Array.getElem?_modify, h]
theorem only_set3 (w : World) (g : Nat) (u0 u1 u2 : Value) : Only g (g + 1) w (((w.setCell ⟨g, 0, none⟩ u0).setCell ⟨g, 1, none⟩ u1).setCell ⟨g, 2, none⟩ u2) :=
  (((Only.refl _ _ _).set (Nat.le_refl _) (Nat.lt_succ_self _) _).set (Nat.le_refl _) (Nat.lt_succ_self _) _).set (Nat.le_refl _) (Nat.lt_succ_self _) _
/-- behind the statement that makes the new buffers -/
def WroteRel (w1 : World) (xs ys : List Int) (v : Int) (s8 : Value) (wx : World) : Prop :=
  ∃ g A1 n1 c1 B1 m1 d1 a0 a1 b0 b1, s8 = .pointer (some ⟨g, 0, none⟩) ∧ w1.heap.size ≤ g ∧ g < wx.heap.size ∧ wx.heap[g]? = some (.cells #[.slice A1 n1 c1, .slice B1 m1 d1, .int .i64 v] 27 (0, 0)) ∧
    n1 ≤ c1 ∧ c1 ≤ 9223372036854775807 ∧ m1 ≤ d1 ∧ d1 ≤ 9223372036854775807 ∧ w1.heap.size ≤ a0 ∧ a0 ≤ a1 ∧ a1 ≤ b0 ∧ b0 ≤ b1 ∧ b1 ≤ wx.heap.size ∧ (g < a0 ∨ a1 ≤ g) ∧ (g < b0 ∨ b1 ≤ g) ∧
    Row 3 wx a0 a1 A1 n1 xs ∧ Row 3 wx b0 b1 B1 m1 ys ∧ Below w1.heap.size w1 wx
theorem wrote_set {w1 wY w2 w3 : World} {g a0 : Nat} {xs ys : List Int} {v : Int} {A1 B1 : Option Addr} {n1 c1 m1 d1 : Nat} {z0 z1 z2 : Value} {b0 : Nat} (hg : w1.heap.size ≤ g) (hb : w3.heap[g]? = some (.cells #[z0, z1, z2] 27 (0, 0)))
    (k1 : n1 ≤ c1) (k2 : c1 ≤ 9223372036854775807) (k3 : m1 ≤ d1) (k4 : d1 ≤ 9223372036854775807) (ha0 : w1.heap.size ≤ a0) (ha1 : a0 ≤ w2.heap.size) (hb0 : w2.heap.size ≤ b0) (hb1 : b0 ≤ w3.heap.size)
    (hga : g < a0 ∨ w2.heap.size ≤ g) (hgb : g < b0) (hr1 : Row 3 w2 a0 w2.heap.size A1 n1 xs) (hY : Below w2.heap.size w2 wY) (hY3 : Below wY.heap.size wY w3) (hr2 : Row 3 w3 b0 w3.heap.size B1 m1 ys) (hbl : Below w1.heap.size w1 w3) :
    WroteRel w1 xs ys v (.pointer (some ⟨g, 0, none⟩)) (((w3.setCell ⟨g, 0, none⟩ (.slice A1 n1 c1)).setCell ⟨g, 1, none⟩ (.slice B1 m1 d1)).setCell ⟨g, 2, none⟩ (.int .i64 v)) := by
  have ho := only_set3 w3 g (.slice A1 n1 c1) (.slice B1 m1 d1) (.int .i64 v)
  have hs : (((w3.setCell ⟨g, 0, none⟩ (.slice A1 n1 c1)).setCell ⟨g, 1, none⟩ (.slice B1 m1 d1)).setCell ⟨g, 2, none⟩ (.int .i64 v)).heap.size = w3.heap.size := by simp [World.setCell]
  have hsY := hY.size
  have hr1' := (hr1.belowS hY).belowS hY3
  refine ⟨g, A1, n1, c1, B1, m1, d1, a0, w2.heap.size, b0, w3.heap.size, rfl, hg, by omega, block_set3 hb, k1, k2, k3, k4, ha0, ha1, hb0, hb1, by omega, hga, .inl hgb, hr1'.far ho (by omega), hr2.far ho (by omega), hbl.trans (ho.below hg (by have := hbl.size; omega))⟩
theorem wrote_new {w1 w2 w3 : World} {a0 : Nat} {xs ys : List Int} {v : Int} {A1 B1 : Option Addr} {n1 c1 m1 d1 : Nat}
    (k1 : n1 ≤ c1) (k2 : c1 ≤ 9223372036854775807) (k3 : m1 ≤ d1) (k4 : d1 ≤ 9223372036854775807) (ha0 : w1.heap.size ≤ a0) (ha1 : a0 ≤ w2.heap.size)
    (hr1 : Row 3 w2 a0 w2.heap.size A1 n1 xs) (hY3 : Below w2.heap.size w2 w3) (hr2 : Row 3 w3 w2.heap.size w3.heap.size B1 m1 ys) (hbl : Below w1.heap.size w1 w3) :
    WroteRel w1 xs ys v (.pointer (some ⟨w3.heap.size, 0, none⟩)) (w3.alloc (.cells #[.slice A1 n1 c1, .slice B1 m1 d1, .int .i64 v] 27)) := by
  have hb : Below w3.heap.size w3 (w3.alloc (.cells #[.slice A1 n1 c1, .slice B1 m1 d1, .int .i64 v] 27)) := (Below.refl _ _).alloc (Nat.le_refl _) _
  have h23 := hY3.size
  have h13 := hbl.size
  exact ⟨w3.heap.size, A1, n1, c1, B1, m1, d1, a0, w2.heap.size, w2.heap.size, w3.heap.size, rfl, h13, by simp, heap_alloc_new w3 _, k1, k2, k3, k4, ha0, ha1, Nat.le_refl _, h23, by simp, .inr h23, .inr (Nat.le_refl _), (hr1.belowS hY3).belowS hb, hr2.belowS hb, hbl.alloc h13 _⟩

def writeS (xs ys : List Int) (v i x : Int) : Ans := if (validB xs ys v && inR i 0 ((xs.length : Int) - 1)) = true ∧ inR x (-10000) 10000 = true then ⟨xs, ys.set i.toNat x, v, true⟩ else noAns
set_option maxHeartbeats 3200000 in
theorem implWrite_any (K : Nat) (A : Option Addr) (n c : Nat) (B : Option Addr) (m d : Nat) (xs ys : List Int) (v i x : Int) (w : World) (h : Buf w K A n c B m d xs ys) (hK : K ≤ w.heap.size) :
    Calls Try.prog 28 #[.agg #[.slice A n c, .slice B m d, .int .i64 v], .int .i64 i, .int .i64 x] w (OpB (writeS xs ys v i x) w) := by
  have hb0 := hide ((((Below.refl w.heap.size w).alloc (Nat.le_refl _) (.cells #[.slice A n c, .slice B m d, .int .i64 v] 27))).alloc (by simp) (.cells #[.slice none 0 0, .slice none 0 0, .int .i64 0] 27))
  have H := hide (h.below hb0.out hK)
  have hxl := hide h.1.1
  clear h
  cases hv : (validB xs ys v && inR i 0 ((n : Int) - 1))
  case false =>
    have hs := hide (show writeS xs ys v i x = noAns by unfold writeS; rw [hxl.out, hv]; simp)
    go_enter Try.func28, Try.ntmps28
    go_wp2_with fail
    refine (cellIn_any K A n c B m d xs ys v i _ H.out (by simp; omega)).mono ?_
    rintro e w1 ⟨rfl, hb⟩
    have sa0 := hb.cell (p := ⟨w.heap.size, 0, none⟩) (by simp; omega)
    have sa1 := hb.cell (p := ⟨w.heap.size, 1, none⟩) (by simp; omega)
    have sa2 := hb.cell (p := ⟨w.heap.size, 2, none⟩) (by simp; omega)
    have sb0 := hb.cell (p := ⟨w.heap.size + 1, 0, none⟩) (by simp)
    have sf0 := hb.frozen (p := ⟨w.heap.size + 1, 0, none⟩) (by simp)
    have sb1 := hb.cell (p := ⟨w.heap.size + 1, 1, none⟩) (by simp)
    have sf1 := hb.frozen (p := ⟨w.heap.size + 1, 1, none⟩) (by simp)
    have sb2 := hb.cell (p := ⟨w.heap.size + 1, 2, none⟩) (by simp)
    have sf2 := hb.frozen (p := ⟨w.heap.size + 1, 2, none⟩) (by simp)
    have hz1 : w.heap.size + 2 ≤ w1.heap.size := by have := hb.size; simpa using this
    have HZ := hide (hb0.out.trans (hb.mono (by simp; omega)))
    clear hb
    go_wp2_with (go_at_call 32; refine (within_any _ _ _ _).mono ?_; rintro e w' ⟨rfl, rfl⟩)
    refine bodyPost_ret (v := .tuple #[.agg #[.slice none 0 0, .slice none 0 0, .int .i64 0], .bool false]) (by simp [results, Try.results28, go_sem, sb0, sb1, sb2]) rfl (zero_of (Q := 2) hs.out HZ.out ?_ ?_)
    · exact (((Only.refl _ _ _).set (by omega) (by omega) _).set (by omega) (by omega) _).set (by omega) (by omega) _
    · simp [World.setCell]
  case true =>
    cases hxr : inR x (-10000) 10000
    case false =>
      have hs := hide (show writeS xs ys v i x = noAns by simp [writeS, hxr])
      go_enter Try.func28, Try.ntmps28
      go_wp2_with fail
      refine (cellIn_any K A n c B m d xs ys v i _ H.out (by simp; omega)).mono ?_
      rintro e w1 ⟨rfl, hb⟩
      have sa0 := hb.cell (p := ⟨w.heap.size, 0, none⟩) (by simp; omega)
      have sa1 := hb.cell (p := ⟨w.heap.size, 1, none⟩) (by simp; omega)
      have sa2 := hb.cell (p := ⟨w.heap.size, 2, none⟩) (by simp; omega)
      have sb0 := hb.cell (p := ⟨w.heap.size + 1, 0, none⟩) (by simp)
      have sf0 := hb.frozen (p := ⟨w.heap.size + 1, 0, none⟩) (by simp)
      have sb1 := hb.cell (p := ⟨w.heap.size + 1, 1, none⟩) (by simp)
      have sf1 := hb.frozen (p := ⟨w.heap.size + 1, 1, none⟩) (by simp)
      have sb2 := hb.cell (p := ⟨w.heap.size + 1, 2, none⟩) (by simp)
      have sf2 := hb.frozen (p := ⟨w.heap.size + 1, 2, none⟩) (by simp)
      have hz1 : w.heap.size + 2 ≤ w1.heap.size := by have := hb.size; simpa using this
      have HZ := hide (hb0.out.trans (hb.mono (by simp; omega)))
      clear hb
      go_wp2_with (go_at_call 32; refine (within_any _ _ _ _).mono ?_; rintro e w' ⟨rfl, rfl⟩)
      refine bodyPost_ret (v := .tuple #[.agg #[.slice none 0 0, .slice none 0 0, .int .i64 0], .bool false]) (by simp [results, Try.results28, go_sem, sb0, sb1, sb2]) rfl (zero_of (Q := 2) hs.out HZ.out ?_ ?_)
      · exact (((Only.refl _ _ _).set (by omega) (by omega) _).set (by omega) (by omega) _).set (by omega) (by omega) _
      · simp [World.setCell]
    case true =>
      have hs := hide (show writeS xs ys v i x = ⟨xs, ys.set i.toNat x, v, true⟩ by unfold writeS; rw [hxl.out, hv]; simp [hxr])
      go_enter Try.func28, Try.ntmps28
      go_wp2_with fail
      refine (cellIn_any K A n c B m d xs ys v i _ H.out (by simp; omega)).mono ?_
      rintro e w1 ⟨rfl, hb⟩
      have sa0 := hb.cell (p := ⟨w.heap.size, 0, none⟩) (by simp; omega)
      have sa1 := hb.cell (p := ⟨w.heap.size, 1, none⟩) (by simp; omega)
      have sa2 := hb.cell (p := ⟨w.heap.size, 2, none⟩) (by simp; omega)
      have sb0 := hb.cell (p := ⟨w.heap.size + 1, 0, none⟩) (by simp)
      have sf0 := hb.frozen (p := ⟨w.heap.size + 1, 0, none⟩) (by simp)
      have sb1 := hb.cell (p := ⟨w.heap.size + 1, 1, none⟩) (by simp)
      have sf1 := hb.frozen (p := ⟨w.heap.size + 1, 1, none⟩) (by simp)
      have sb2 := hb.cell (p := ⟨w.heap.size + 1, 2, none⟩) (by simp)
      have sf2 := hb.frozen (p := ⟨w.heap.size + 1, 2, none⟩) (by simp)
      have hz1 : w.heap.size + 2 ≤ w1.heap.size := by have := hb.size; simpa using this
      have HZ := hide (hb0.out.trans (hb.mono (by simp; omega)))
      have HL := hide (H.out.1.below hb (by simp; omega))
      have HL2 := hide (H.out.2.1.below hb (by simp; omega))
      have hln := hide H.out.2.2
      clear hb H hb0
      go_wp2_with (go_at_call 32; refine (within_any _ _ _ _).mono ?_; rintro e w' ⟨rfl, rfl⟩)
      have hvv := hv
      rw [Bool.and_eq_true] at hvv
      obtain ⟨⟨n0, n16⟩, hyx, _, _, v0, v1⟩ := validB_iff.1 hvv.1
      obtain ⟨i0, i1⟩ := inR_iff.1 hvv.2
      have hym := hide (show ys.length = n by have := hxl.out; omega)
      clear hvv hyx
      obtain ⟨j, rfl⟩ := Int.eq_ofNat_of_zero_le i0
      clear hv hxr
      have P0 : w1.cell? ⟨w.heap.size, 0, none⟩ = some (.slice A n c) := by rw [sa0]; simp
      have P1 : w1.cell? ⟨w.heap.size, 1, none⟩ = some (.slice B m d) := by rw [sa1]; simp
      have P2 : w1.cell? ⟨w.heap.size, 2, none⟩ = some (.int .i64 v) := by rw [sa2]; simp
      have Z0 : w1.cell? ⟨w.heap.size + 1, 0, none⟩ = some (.slice none 0 0) := by rw [sb0]; simp
      have Z1 : w1.cell? ⟨w.heap.size + 1, 1, none⟩ = some (.slice none 0 0) := by rw [sb1]; simp
      have Z2 : w1.cell? ⟨w.heap.size + 1, 2, none⟩ = some (.int .i64 0) := by rw [sb2]; simp
      have Y0 : w1.frozen? ⟨w.heap.size + 1, 0, none⟩ = false := by rw [sf0]; simp
      have Y1 : w1.frozen? ⟨w.heap.size + 1, 1, none⟩ = false := by rw [sf1]; simp
      have Y2 : w1.frozen? ⟨w.heap.size + 1, 2, none⟩ = false := by rw [sf2]; simp
      clear sa0 sa1 sa2 sb0 sb1 sb2 sf0 sf1 sf2
      have HU := hide (fun W (hw : Below w1.heap.size w1 W) => (⟨HL.out.below hw (by omega), HL2.out.below hw (by omega)⟩ : Ints .i64 W K A n xs ∧ Ints .i64 W K B m ys))
      go_cut [8] (fun s8 wx => Hid (WroteRel w1 xs ys v s8 wx))
      case first =>
        go_region_held3 (fun w' => w'.cell? ⟨w.heap.size, 0, none⟩ = some (.slice A n c) ∧ w'.cell? ⟨w.heap.size, 1, none⟩ = some (.slice B m d) ∧ w'.cell? ⟨w.heap.size, 2, none⟩ = some (.int .i64 v)) (first | go_keep | exact ⟨ta0, ta1, ta2⟩ | exact ⟨ua0, ua1, ua2⟩ | exact ⟨cell_set3 ua0 (by omega), cell_set3 ua1 (by omega), cell_set3 ua2 (by omega)⟩) (first | (go_at_call 39; ((with_reducible refine (copyOf_any K A n c xs (w1.drew) ((HU.out _ ((Below.refl _ _).drew)).1) (by first | omega | (simp; omega)) (by have := hln.out; omega)).mono ?_)); rintro e w2 ⟨A1, n1, c1, rfl, a1, a2, hr1, hb1⟩; have hq1 : Below w1.heap.size w1 w2 := (Below.refl _ _).drew.trans (hb1.mono (by simp)); have hz2 := hq1.size; have ta0 := (hq1.cell (p := ⟨w.heap.size, 0, none⟩) (by show w.heap.size < w1.heap.size; omega)).trans P0; have ta1 := (hq1.cell (p := ⟨w.heap.size, 1, none⟩) (by show w.heap.size < w1.heap.size; omega)).trans P1; have ta2 := (hq1.cell (p := ⟨w.heap.size, 2, none⟩) (by show w.heap.size < w1.heap.size; omega)).trans P2; have ordC : True := trivial) | (go_at_call 39; ((with_reducible refine (copyOf_any K A n c xs ((w1.alloc (.cells #[.slice none 0 0, .slice none 0 0, .int .i64 0] 27)).drew) ((HU.out _ (((Below.refl _ _).alloc (Nat.le_refl _) _).drew)).1) (by first | omega | (simp; omega)) (by have := hln.out; omega)).mono ?_)); rintro e w2 ⟨A1, n1, c1, rfl, a1, a2, hr1, hb1⟩; have hq1 : Below w1.heap.size w1 w2 := (((Below.refl _ _).alloc (Nat.le_refl _) _).drew).trans (hb1.mono (by simp)); have hz2 := hq1.size; have hzs : w1.heap.size < w2.heap.size := (by have := hb1.size; simp at this; omega); have ta0 := (hq1.cell (p := ⟨w.heap.size, 0, none⟩) (by show w.heap.size < w1.heap.size; omega)).trans P0; have ta1 := (hq1.cell (p := ⟨w.heap.size, 1, none⟩) (by show w.heap.size < w1.heap.size; omega)).trans P1; have ta2 := (hq1.cell (p := ⟨w.heap.size, 2, none⟩) (by show w.heap.size < w1.heap.size; omega)).trans P2; have tg0 := hb1.cell (p := ⟨w1.heap.size, 0, none⟩) (by simp); have th0 := hb1.frozen (p := ⟨w1.heap.size, 0, none⟩) (by simp); have tg1 := hb1.cell (p := ⟨w1.heap.size, 1, none⟩) (by simp); have th1 := hb1.frozen (p := ⟨w1.heap.size, 1, none⟩) (by simp); have tg2 := hb1.cell (p := ⟨w1.heap.size, 2, none⟩) (by simp); have th2 := hb1.frozen (p := ⟨w1.heap.size, 2, none⟩) (by simp); have ordA : True := trivial) | (go_at_call 39; ((with_reducible refine (copyOf_any K B m d ys (w2) ((HU.out _ (hq1)).2) (by first | omega | (simp; omega)) (by have := hln.out; omega)).mono ?_)); rintro e w3 ⟨B1, m1, d1, rfl, b1, b2, hr2, hb2⟩; have hq2 : Below w1.heap.size w1 w3 := hq1.trans (hb2.mono hz2); have hz3 := hq2.size; have _o := ordA; have ua0 := (hq2.cell (p := ⟨w.heap.size, 0, none⟩) (by show w.heap.size < w1.heap.size; omega)).trans P0; have ua1 := (hq2.cell (p := ⟨w.heap.size, 1, none⟩) (by show w.heap.size < w1.heap.size; omega)).trans P1; have ua2 := (hq2.cell (p := ⟨w.heap.size, 2, none⟩) (by show w.heap.size < w1.heap.size; omega)).trans P2; have ug0 := hb2.cell (p := ⟨w1.heap.size, 0, none⟩) (by show w1.heap.size < w2.heap.size; omega); have uh0 := hb2.frozen (p := ⟨w1.heap.size, 0, none⟩) (by show w1.heap.size < w2.heap.size; omega); have ug1 := hb2.cell (p := ⟨w1.heap.size, 1, none⟩) (by show w1.heap.size < w2.heap.size; omega); have uh1 := hb2.frozen (p := ⟨w1.heap.size, 1, none⟩) (by show w1.heap.size < w2.heap.size; omega); have ug2 := hb2.cell (p := ⟨w1.heap.size, 2, none⟩) (by show w1.heap.size < w2.heap.size; omega); have uh2 := hb2.frozen (p := ⟨w1.heap.size, 2, none⟩) (by show w1.heap.size < w2.heap.size; omega)) | (go_at_call 39; ((with_reducible refine (copyOf_any K B m d ys (w2) ((HU.out _ (hq1)).2) (by first | omega | (simp; omega)) (by have := hln.out; omega)).mono ?_)); rintro e w3 ⟨B1, m1, d1, rfl, b1, b2, hr2, hb2⟩; have hq2 : Below w1.heap.size w1 w3 := hq1.trans (hb2.mono hz2); have hz3 := hq2.size; have _o := ordC; have ua0 := (hq2.cell (p := ⟨w.heap.size, 0, none⟩) (by show w.heap.size < w1.heap.size; omega)).trans P0; have ua1 := (hq2.cell (p := ⟨w.heap.size, 1, none⟩) (by show w.heap.size < w1.heap.size; omega)).trans P1; have ua2 := (hq2.cell (p := ⟨w.heap.size, 2, none⟩) (by show w.heap.size < w1.heap.size; omega)).trans P2) | (go_at_call 39; ((with_reducible refine (copyOf_any K B m d ys (w2.alloc (.cells #[.slice none 0 0, .slice none 0 0, .int .i64 0] 27)) ((HU.out _ (hq1.alloc hz2 _)).2) (by first | omega | (simp; omega)) (by have := hln.out; omega)).mono ?_)); rintro e w3 ⟨B1, m1, d1, rfl, b1, b2, hr2, hb2⟩; have hq2 : Below w1.heap.size w1 w3 := (hq1.alloc hz2 _).trans (hb2.mono (by simp; omega)); have hz3 := hq2.size; have ua0 := (hq2.cell (p := ⟨w.heap.size, 0, none⟩) (by show w.heap.size < w1.heap.size; omega)).trans P0; have ua1 := (hq2.cell (p := ⟨w.heap.size, 1, none⟩) (by show w.heap.size < w1.heap.size; omega)).trans P1; have ua2 := (hq2.cell (p := ⟨w.heap.size, 2, none⟩) (by show w.heap.size < w1.heap.size; omega)).trans P2; have ug0 := hb2.cell (p := ⟨w2.heap.size, 0, none⟩) (by simp); have uh0 := hb2.frozen (p := ⟨w2.heap.size, 0, none⟩) (by simp); have ug1 := hb2.cell (p := ⟨w2.heap.size, 1, none⟩) (by simp); have uh1 := hb2.frozen (p := ⟨w2.heap.size, 1, none⟩) (by simp); have ug2 := hb2.cell (p := ⟨w2.heap.size, 2, none⟩) (by simp); have uh2 := hb2.frozen (p := ⟨w2.heap.size, 2, none⟩) (by simp); have ordB : True := trivial))
        · go_wp2_with fail
          go_meet
          exact hide (wrote_new a1 a2 b1 b2 (Nat.le_refl _) (by simpa using hb1.size) hr1 hb2 hr2 hq2)
        · go_wp2_with fail
          go_meet
          exact hide (wrote_set (wY := w2.alloc (.cells #[.slice none 0 0, .slice none 0 0, .int .i64 0] 27)) hz2 ((hb2.block _ (by simp)).trans (heap_alloc_new w2 _)) a1 a2 b1 b2 (Nat.le_refl _) (by simpa using hb1.size) (by simp) hb2.size (.inr (Nat.le_refl _)) (by simp) hr1 ((Below.refl _ _).alloc (Nat.le_refl _) _) hb2 hr2 hq2)
        · go_wp2_with fail
          go_meet
          exact hide (wrote_set (wY := w2) (Nat.le_refl _) ((hb2.block _ hzs).trans ((hb1.block _ (by simp)).trans (heap_alloc_new w1 _))) a1 a2 b1 b2 (by simp) hb1.size (Nat.le_refl _) hb2.size (.inl (by simp)) hzs hr1 (Below.refl _ _) hb2 hr2 hq2)
      case rest =>
        obtain ⟨g, A1, n1, c1, B1, m1, d1, a0, a1, b0, b1, rfl, hg, hgx, hgb, k1, k2, k3, k4, ha0, ha01, hab, hb01, hbx, hga, hgbb, hr1, hr2, hbl⟩ := hcut.out
        clear hcut HL HL2 HU
        have hm1 : j < m1 := by have := hr2.1; have := hym.out; omega
        obtain ⟨gb, ob, curb, rfl, gb0, gb1, _⟩ := hr2.2 (by omega)
        obtain ⟨e1, e2⟩ := hr2.cell j hm1
        generalize ys.getD j 0 = yj at e1
        have hne : g ≠ gb := by omega
        have hbz := hbl.size
        have g0 : wc.cell? ⟨g, 0, none⟩ = some (.slice A1 n1 c1) := by rw [cell_of_row wc g 0 _ _ (0, 0) hgb]; rfl
        have g1 : wc.cell? ⟨g, 1, none⟩ = some (.slice (some ⟨gb, ob, none⟩) m1 d1) := by rw [cell_of_row wc g 1 _ _ (0, 0) hgb]; rfl
        have g2 : wc.cell? ⟨g, 2, none⟩ = some (.int .i64 v) := by rw [cell_of_row wc g 2 _ _ (0, 0) hgb]; rfl
        have r0 := (hbl.cell (p := ⟨w.heap.size + 1, 0, none⟩) (by show w.heap.size + 1 < w1.heap.size; omega)).trans Z0
        have f0 := (hbl.frozen (p := ⟨w.heap.size + 1, 0, none⟩) (by show w.heap.size + 1 < w1.heap.size; omega)).trans Y0
        have r1 := (hbl.cell (p := ⟨w.heap.size + 1, 1, none⟩) (by show w.heap.size + 1 < w1.heap.size; omega)).trans Z1
        have f1 := (hbl.frozen (p := ⟨w.heap.size + 1, 1, none⟩) (by show w.heap.size + 1 < w1.heap.size; omega)).trans Y1
        have r2 := (hbl.cell (p := ⟨w.heap.size + 1, 2, none⟩) (by show w.heap.size + 1 < w1.heap.size; omega)).trans Z2
        have f2 := (hbl.frozen (p := ⟨w.heap.size + 1, 2, none⟩) (by show w.heap.size + 1 < w1.heap.size; omega)).trans Y2
        have g0' : (wc.setCell ⟨gb, ob + j, none⟩ (.int .i64 x)).cell? ⟨g, 0, none⟩ = some (.slice A1 n1 c1) := (World.cell?_setCell_other _ _ _ _ (by intro e; injection e with e; exact hne e.symm)).trans g0
        have r0' : (wc.setCell ⟨gb, ob + j, none⟩ (.int .i64 x)).cell? ⟨w.heap.size + 1, 0, none⟩ = some (.slice none 0 0) := (World.cell?_setCell_other _ _ _ _ (by intro e; injection e with e; omega)).trans r0
        have g1' : (wc.setCell ⟨gb, ob + j, none⟩ (.int .i64 x)).cell? ⟨g, 1, none⟩ = some (.slice (some ⟨gb, ob, none⟩) m1 d1) := (World.cell?_setCell_other _ _ _ _ (by intro e; injection e with e; exact hne e.symm)).trans g1
        have r1' : (wc.setCell ⟨gb, ob + j, none⟩ (.int .i64 x)).cell? ⟨w.heap.size + 1, 1, none⟩ = some (.slice none 0 0) := (World.cell?_setCell_other _ _ _ _ (by intro e; injection e with e; omega)).trans r1
        have g2' : (wc.setCell ⟨gb, ob + j, none⟩ (.int .i64 x)).cell? ⟨g, 2, none⟩ = some (.int .i64 v) := (World.cell?_setCell_other _ _ _ _ (by intro e; injection e with e; exact hne e.symm)).trans g2
        have r2' : (wc.setCell ⟨gb, ob + j, none⟩ (.int .i64 x)).cell? ⟨w.heap.size + 1, 2, none⟩ = some (.int .i64 0) := (World.cell?_setCell_other _ _ _ _ (by intro e; injection e with e; omega)).trans r2
        have hij : (j : Int) < (m1 : Int) := by omega
        have D := hide (show ∀ w4, Only w.heap.size (w.heap.size + 2) (wc.setCell ⟨gb, ob + j, none⟩ (.int .i64 x)) w4 → w4.heap.size = wc.heap.size → OpB (writeS xs ys v (j : Int) x) w (.returned (.tuple #[.agg #[.slice A1 n1 c1, .slice (some ⟨gb, ob, none⟩) m1 d1, .int .i64 v], .bool true])) w4 from fun w4 ho hs4 => by
          rw [hs.out]
          have hset : Only b0 b1 wc (wc.setCell ⟨gb, ob + j, none⟩ (.int .i64 x)) := (Only.refl _ _ _).set gb0 gb1 _
          have hr1b := (hr1.far hset (by omega)).far ho (.inr (by omega))
          have hr2b := (hr2.put hm1 x).far ho (.inr (by omega))
          refine ⟨_, _, _, _, _, _, rfl, k1, k2, k3, k4, (HZ.out.trans (hbl.mono (by omega))).trans ((hset.below (by omega) (by omega)).trans (ho.below (Nat.le_refl _) (by simp [World.setCell]; omega))), b0, by omega, by omega, hr1b.mono (by omega) hab, ?_⟩
          simpa using hr2b.mono (Nat.le_refl _) (by omega))
        clear hr1 hr2 hbl hgb Z0 Z1 Z2 Y0 Y1 Y2 P0 P1 P2
        go_wp2
        refine bodyPost_ret (v := .tuple #[.agg #[.slice A1 n1 c1, .slice (some ⟨gb, ob, none⟩) m1 d1, .int .i64 v], .bool true]) (by simp [results, Try.results28, go_sem, r0', r1', r2']) rfl (D.out _ ?_ ?_)
        · exact (((Only.refl _ _ _).set (by omega) (by omega) _).set (by omega) (by omega) _).set (by omega) (by omega) _
        · simp [World.setCell]
end Go.Proofs.Ytjaagekckbjhdaa
