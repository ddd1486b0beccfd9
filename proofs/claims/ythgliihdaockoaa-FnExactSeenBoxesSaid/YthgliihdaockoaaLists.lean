/- Slices of integers that the call itself makes: copied, compared, marked, asked. Conditions: none. -/
import Derived.Test.YthgliihdaockoaaSlices
import Derived.BigQuiet
namespace Go.Proofs.Ythgliihdaockoaa
open Go.RowKit
set_option linter.unusedVariables false

/-- between blocks lo and hi alone something may have turned -/
structure Only (lo hi : Nat) (w w' : World) : Prop where
  os : w'.os = w.os
  tape : w'.tape = w.tape
  output : w'.output = w.output
  size : w.heap.size ≤ w'.heap.size
  block : ∀ k, k < w.heap.size → (k < lo ∨ hi ≤ k) → w'.heap[k]? = w.heap[k]?

theorem Only.refl (lo hi : Nat) (w : World) : Only lo hi w w := ⟨rfl, rfl, rfl, Nat.le_refl _, fun _ _ _ => rfl⟩
theorem Only.trans {lo hi : Nat} {a b c : World} (h : Only lo hi a b) (k : Only lo hi b c) : Only lo hi a c :=
  ⟨k.os.trans h.os, k.tape.trans h.tape, k.output.trans h.output, Nat.le_trans h.size k.size, fun i hi' hne => (k.block i (Nat.lt_of_lt_of_le hi' h.size) hne).trans (h.block i hi' hne)⟩
theorem Only.ofBelow {lo hi : Nat} {w w' : World} (h : Below w.heap.size w w') : Only lo hi w w' := ⟨h.os, h.tape, h.output, h.size, fun k hk _ => h.block k hk⟩
theorem Only.below {lo hi B : Nat} {w w' : World} (h : Only lo hi w w') (hB : B ≤ lo) (hw : B ≤ w.heap.size) : Below B w w' := ⟨h.os, h.tape, h.output, h.size, fun k hk => h.block k (by omega) (.inl (by omega))⟩
theorem Only.mono {lo hi lo' hi' : Nat} {w w' : World} (h : Only lo hi w w') (h1 : lo' ≤ lo) (h2 : hi ≤ hi') : Only lo' hi' w w' := ⟨h.os, h.tape, h.output, h.size, fun k hk hne => h.block k hk (by omega)⟩

/-- m cells from a slice's head on, in one block of integers (or of structs of integers) between lo and hi, that nothing has frozen -/
def Row (E : TypeId) (w : World) (lo hi : Nat) (A : Option Addr) (m : Nat) (xs : List Int) : Prop :=
  xs.length = m ∧ (0 < m → ∃ g off cur, A = some ⟨g, off, none⟩ ∧ lo ≤ g ∧ g < hi ∧ w.heap[g]? = some (.cells cur E (0, 0)) ∧ off + m ≤ cur.size ∧ ∀ i, i < m → cur[off + i]? = some (.int .i64 (xs.getD i 0)))

section
variable {E : TypeId} {w w' : World} {lo hi m : Nat} {A : Option Addr} {xs : List Int}
theorem Row.nil (E : TypeId) (w : World) (lo hi : Nat) (A : Option Addr) : Row E w lo hi A 0 [] := ⟨rfl, fun h => by omega⟩
theorem Row.keep (h : Row E w lo hi A m xs) (hk : ∀ k, lo ≤ k → k < hi → k < w.heap.size → w'.heap[k]? = w.heap[k]?) : Row E w' lo hi A m xs :=
  ⟨h.1, fun hm => by
    obtain ⟨g, off, cur, e, h1, h2, h3, h4, h5⟩ := h.2 hm
    have hg : g < w.heap.size := by
      rcases Nat.lt_or_ge g w.heap.size with h6 | h6
      · exact h6
      · rw [Array.getElem?_eq_none h6] at h3; cases h3
    exact ⟨g, off, cur, e, h1, h2, (hk g h1 h2 hg).trans h3, h4, h5⟩⟩
theorem Row.below {B : Nat} (h : Row E w lo hi A m xs) (hb : Below B w w') (hB : hi ≤ B) : Row E w' lo hi A m xs := h.keep fun k _ h2 _ => hb.block k (by omega)
theorem Row.belowS (h : Row E w lo hi A m xs) (hb : Below w.heap.size w w') : Row E w' lo hi A m xs := h.keep fun k _ _ h3 => hb.block k h3
theorem Row.far {lo' hi' : Nat} (h : Row E w lo hi A m xs) (ho : Only lo' hi' w w') (hd : hi ≤ lo' ∨ hi' ≤ lo) : Row E w' lo hi A m xs := h.keep fun k _ _ h3 => ho.block k h3 (by omega)
theorem Row.mono {lo' hi' : Nat} (h : Row E w lo hi A m xs) (h1 : lo' ≤ lo) (h2 : hi ≤ hi') : Row E w lo' hi' A m xs :=
  ⟨h.1, fun hm => by
    obtain ⟨g, off, cur, e, a, b, r⟩ := h.2 hm
    exact ⟨g, off, cur, e, by omega, by omega, r⟩⟩
theorem Row.ints (h : Row E w lo hi A m xs) : Ints .i64 w hi A m xs :=
  ⟨h.1, (fun h => by cases h), fun hm => by
    obtain ⟨g, off, cur, e, h1, h2, h3, h4, h5⟩ := h.2 hm
    exact ⟨g, off, e, h2, fun i hi => by rw [cell_of_row w g _ cur E (0, 0) h3]; exact h5 i hi⟩⟩
theorem Row.take (h : Row E w lo hi A m xs) {k : Nat} (hk : k ≤ m) : Row E w lo hi A k (xs.take k) :=
  ⟨by rw [List.length_take, h.1]; omega, fun hm => by
    obtain ⟨g, off, cur, e, h1, h2, h3, h4, h5⟩ := h.2 (by omega)
    exact ⟨g, off, cur, e, h1, h2, h3, by omega, fun i hi => by rw [h5 i (by omega)]; simp [List.getD_eq_getElem?_getD, hi]⟩⟩
end
theorem Ints.below {k : IntKind} {w w' : World} {B B' : Nat} {a : Option Addr} {n : Nat} {xs : List Int} (h : Ints k w B a n xs) (hb : Below B' w w') (hB : B ≤ B') : Ints k w' B a n xs :=
  h.keep fun b o hlt => hb.cell (p := ⟨b, o, none⟩) (by show b < B'; omega)
theorem Ints.only {k : IntKind} {w w' : World} {B lo hi : Nat} {a : Option Addr} {n : Nat} {xs : List Int} (h : Ints k w B a n xs) (hb : Only lo hi w w') (hB : B ≤ lo) (hw : B ≤ w.heap.size) : Ints k w' B a n xs :=
  h.below (hb.below hB hw) (Nat.le_refl _)

/-- a new slice that holds xs -/
def Made (xs : List Int) (w : World) (e : Ending) (w' : World) : Prop :=
  ∃ (A : Option Addr) (n c : Nat), e = .returned (.slice A n c) ∧ n ≤ c ∧ c ≤ 9223372036854775807 ∧ Row 3 w' w.heap.size w'.heap.size A n xs ∧ Below w.heap.size w w'

theorem int_info : (Try.prog.info? 3).map (fun i => (i.zero, i.size, i.bytes)) = some (some (.int .i64 0), 1, 8) := by kernel_rfl

/-- a row that is being filled -/
def Filling (E : TypeId) (w : World) (G n k : Nat) (xs : List Int) (wr : World) : Prop :=
  Below G w wr ∧ ∃ cur, wr.heap[G]? = some (.cells cur E (0, 0)) ∧ cur.size = n ∧ ∀ i, i < k → cur[i]? = some (.int .i64 (xs.getD i 0))
theorem Filling.start (E : TypeId) (w : World) (cur : Array Value) (xs : List Int) : Filling E w w.heap.size cur.size 0 xs (w.alloc (.cells cur E)) :=
  ⟨(Below.refl _ _).alloc (Nat.le_refl _) _, cur, heap_alloc_new w _, rfl, fun i hi => by omega⟩
theorem Filling.cell {E : TypeId} {w wr : World} {G n k : Nat} {xs : List Int} (h : Filling E w G n k xs wr) (j : Nat) (hj : j < n) : ∃ v, wr.cell? ⟨G, j, none⟩ = some v ∧ wr.frozen? ⟨G, j, none⟩ = false := by
  obtain ⟨_, cur, hb, hs, _⟩ := h
  refine ⟨cur[j]'(by omega), ?_, by simp [World.frozen?, hb]⟩
  rw [cell_of_row wr G j cur E (0, 0) hb, Array.getElem?_eq_getElem]
theorem Filling.lt {E : TypeId} {w wr : World} {G n k : Nat} {xs : List Int} (h : Filling E w G n k xs wr) : G < wr.heap.size := by
  obtain ⟨_, cur, hb, _⟩ := h
  rcases Nat.lt_or_ge G wr.heap.size with h6 | h6
  · exact h6
  · rw [Array.getElem?_eq_none h6] at hb; cases hb
theorem Filling.step {E : TypeId} {w wr : World} {G n k : Nat} {xs : List Int} (h : Filling E w G n k xs wr) (hk : k < n) {x : Int} (hx : xs.getD k 0 = x) : Filling E w G n (k + 1) xs (wr.setCell ⟨G, k, none⟩ (.int .i64 x)) := by
  subst hx
  obtain ⟨hb, cur, hc, hs, hi⟩ := h
  refine ⟨hb.setCell (Nat.le_refl _) _, cur.setIfInBounds k (.int .i64 (xs.getD k 0)), ?_, by simpa using hs, fun i hik => ?_⟩
  · simp [World.setCell, Array.getElem?_modify, hc]
  · by_cases e : k = i
    · subst e; simp [hs, hk]
    · rw [Array.getElem?_setIfInBounds, if_neg e]; exact hi i (by omega)
theorem Filling.keep {E : TypeId} {w wr wr' : World} {G n k : Nat} {xs : List Int} (h : Filling E w G n k xs wr) (hb : Below wr.heap.size wr wr') : Filling E w G n k xs wr' := by
  have hl := h.lt
  obtain ⟨h1, cur, hc, r⟩ := h
  exact ⟨h1.trans (hb.mono (by omega)), cur, (hb.block G hl).trans hc, r⟩
theorem Filling.row {E : TypeId} {w wr : World} {G n : Nat} {xs : List Int} (h : Filling E w G n n xs wr) (hl : xs.length = n) : Row E wr G (G + 1) (some ⟨G, 0, none⟩) n xs := by
  obtain ⟨_, cur, hc, hs, hi⟩ := h
  exact ⟨hl, fun _ => ⟨G, 0, cur, rfl, Nat.le_refl _, by omega, hc, by omega, fun i h => by rw [Nat.zero_add]; exact hi i h⟩⟩

theorem mk_ints (n : Nat) (hn : n ≤ 1099511627776) (w : World) :
    (Instr.makeSlice 26 (.int .i64 (n : Int)) (.int .i64 (n : Int))).run Try.prog w = .ok (.slice (some ⟨w.heap.size, 0, none⟩) n n) (w.alloc (.cells (madeCells #[.int .i64 0] n) 3)) := by
  obtain ⟨i0, hi, hz0, hz1, hz2⟩ := info_parts int_info
  have h := run_make w 26 3 i0 (.int .i64 0) Try.underlying26 hi hz0 .i64 .i64 n n (by omega) (by omega) (by rw [hz2]; omega) (by omega)
  simpa [hz1, Value.cells] using h


/-- two lists are one -/
def listEq (xs ys : List Int) : Bool := decide (xs = ys)
theorem listEq_iff {xs ys : List Int} : listEq xs ys = true ↔ xs = ys := by simp [listEq]
theorem listEq_self (xs : List Int) : listEq xs xs = true := by simp [listEq]
theorem take_next {xs ys : List Int} {k : Nat} (h : xs.take k = ys.take k) (hx : k < xs.length) (hy : k < ys.length) (he : xs.getD k 0 = ys.getD k 0) : xs.take (k + 1) = ys.take (k + 1) := by
  rw [List.take_succ_eq_append_getElem hx, List.take_succ_eq_append_getElem hy, h]
  rw [List.getD_eq_getElem?_getD, List.getD_eq_getElem?_getD, List.getElem?_eq_getElem hx, List.getElem?_eq_getElem hy] at he
  simp only [Option.getD_some] at he
  rw [he]
theorem listEq_len {xs ys : List Int} (h : xs.length ≠ ys.length) : listEq xs ys = false := by
  simp only [listEq, decide_eq_false_iff_not]; rintro rfl; exact h rfl
theorem listEq_at {xs ys : List Int} {k : Nat} (h : xs.getD k 0 ≠ ys.getD k 0) : listEq xs ys = false := by
  simp only [listEq, decide_eq_false_iff_not]; rintro rfl; exact h rfl
theorem below_drewN {B : Nat} {a w : World} (h : Below B a w) (n : Nat) : Below B a (w.drewN n) := ⟨h.os, h.tape, h.output, h.size, h.block⟩

theorem eqIntS_any (B1 B2 : Nat) (a b : Option Addr) (n m c d : Nat) (xs ys : List Int) (w : World) (hA : Ints .i64 w B1 a n xs) (hB : Ints .i64 w B2 b m ys) (hn : n ≤ 9223372036854775807) (hm : m ≤ 9223372036854775807) :
    Calls Try.prog 9 #[.slice a n c, .slice b m d] w fun e w' => e = .returned (.bool (listEq xs ys)) ∧ Below w.heap.size w w' := by
  obtain ⟨hl, _, hc⟩ := hA
  obtain ⟨hl', _, hc'⟩ := hB
  by_cases hnm : n = m
  · subst hnm
    have HB := hide (Below.refl w.heap.size w)
    go_enter Try.func9, Try.ntmps9
    go_wp2
    go_loopw [5] (fun s5 wr => ∃ k q : Nat, k ≤ n ∧ s5 = .int .i64 k ∧ wr = w.drewN q ∧ Hid (xs.take k = ys.take k)) (fun s5 _ => n - (intOf s5).toNat)
    case atStart => exact ⟨0, 0, Nat.zero_le _, rfl, rfl, hide rfl⟩
    case round =>
      obtain ⟨k, q, hk, rfl, rfl, A⟩ := hrel
      by_cases hlt : k < n
      · obtain ⟨b1, o1, rfl, _, hcell⟩ := hc (by omega)
        obtain ⟨b2, o2, rfl, _, hcell'⟩ := hc' (by omega)
        have h1 := hcell k hlt
        have h2 := hcell' k hlt
        have h3 : (k : Int) < (n : Int) := by omega
        have HN := hide (fun he => take_next (xs := xs) (ys := ys) A.out (by omega) (by omega) he)
        have HF := hide (fun h => listEq_at (xs := xs) (ys := ys) (k := k) h)
        clear hcell hcell' hc hc'
        generalize xs.getD k 0 = x at h1 HN HF
        generalize ys.getD k 0 = y at h2 HN HF
        by_cases hxy : x = y
        · subst hxy
          have D := hide (HN.out rfl)
          go_wp2
          go_quiet (fail)
          go_wp2
          go_roundw
          case rel => exact ⟨k + 1, _, by omega, by go_num, rfl, D⟩
          case measure => simp [intOf]; omega
        · have D := hide (HF.out hxy)
          have e1 : (x == y) = false := by simpa using hxy
          have e2 : (x != y) = true := by simpa using hxy
          go_wp2
          go_quiet (fail)
          go_wp2
          go_ret
          exact ⟨ret_bool D.out.symm, below_drewN (below_drewN HB.out _) _⟩
      · obtain rfl : k = n := by omega
        have D := hide (show listEq xs ys = true by rw [listEq_iff, ← List.take_length (l := xs), ← List.take_length (l := ys), hl, hl']; exact A.out)
        clear hc hc'
        go_wp2
        go_ret
        exact ⟨ret_bool D.out.symm, below_drewN HB.out _⟩
  · have D := hide (show listEq xs ys = false from listEq_len (by omega))
    have e1 : ((n : Int) == (m : Int)) = false := by simp; omega
    have e2 : ((n : Int) != (m : Int)) = true := by simp; omega
    go_enter Try.func9, Try.ntmps9
    go_wp2
    go_ret
    exact ⟨ret_bool D.out.symm, Below.refl _ _⟩


/-- the numbers k, k + 1, .. -/
def marks (k : Int) : Nat → List Int
  | 0 => []
  | n + 1 => k :: marks (k + 1) n
theorem marks_length (k : Int) (n : Nat) : (marks k n).length = n := by induction n generalizing k with | zero => rfl | succ n ih => simp [marks, ih]
theorem marks_at (k : Int) (n i : Nat) (hi : i < n) : (marks k n).getD i 0 = k + i := by
  induction n generalizing k i with
  | zero => omega
  | succ n ih =>
    cases i with
    | zero => simp [marks]
    | succ i =>
      have := ih (k + 1) i (by omega)
      simp only [marks, List.getD_cons_succ, this]
      omega

/-- a row in which the first k cells hold others -/
def Marking (E : TypeId) (w : World) (lo hi : Nat) (A : Option Addr) (m k : Nat) (ys : List Int) (wr : World) : Prop :=
  Only lo hi w wr ∧ ∀ (g off : Nat), A = some ⟨g, off, none⟩ → 0 < m → ∃ cur, lo ≤ g ∧ g < hi ∧ wr.heap[g]? = some (.cells cur E (0, 0)) ∧ off + m ≤ cur.size ∧ ∀ i, i < k → cur[off + i]? = some (.int .i64 (ys.getD i 0))
theorem Marking.start {E : TypeId} {w : World} {lo hi m : Nat} {A : Option Addr} {xs ys : List Int} (h : Row E w lo hi A m xs) : Marking E w lo hi A m 0 ys w :=
  ⟨Only.refl _ _ _, fun g off e hm => by
    obtain ⟨g', off', cur, e', h1, h2, h3, h4, _⟩ := h.2 hm
    rw [e] at e'
    injection e' with e'
    injection e' with e1 e2
    subst e1 e2
    exact ⟨cur, h1, h2, h3, h4, fun i hi => by omega⟩⟩
theorem Marking.cell {E : TypeId} {w wr : World} {lo hi m k : Nat} {g off : Nat} {ys : List Int} (h : Marking E w lo hi (some ⟨g, off, none⟩) m k ys wr) (j : Nat) (hj : j < m) :
    ∃ v, wr.cell? ⟨g, off + j, none⟩ = some v ∧ wr.frozen? ⟨g, off + j, none⟩ = false := by
  obtain ⟨cur, _, _, hb, hs, _⟩ := h.2 g off rfl (by omega)
  refine ⟨cur[off + j]'(by omega), ?_, by simp [World.frozen?, hb]⟩
  rw [cell_of_row wr g _ cur E (0, 0) hb, Array.getElem?_eq_getElem]
theorem Only.set {lo hi : Nat} {w wr : World} (h : Only lo hi w wr) {g o : Nat} (h1 : lo ≤ g) (h2 : g < hi) (v : Value) : Only lo hi w (wr.setCell ⟨g, o, none⟩ v) :=
  ⟨h.os, h.tape, h.output, by simpa [World.setCell] using h.size, fun i hi' hne => (Below.heap_setCell wr _ v i (by show i ≠ g; omega)).trans (h.block i hi' hne)⟩
theorem Marking.step {E : TypeId} {w wr : World} {lo hi m k : Nat} {g off : Nat} {ys : List Int} (h : Marking E w lo hi (some ⟨g, off, none⟩) m k ys wr) (hk : k < m) {x : Int} (hx : ys.getD k 0 = x) :
    Marking E w lo hi (some ⟨g, off, none⟩) m (k + 1) ys (wr.setCell ⟨g, off + k, none⟩ (.int .i64 x)) := by
  subst hx
  obtain ⟨cur, h1, h2, hb, hs, hi'⟩ := h.2 g off rfl (by omega)
  refine ⟨h.1.set h1 h2 _, fun g' off' e hm => ?_⟩
  injection e with e
  injection e with e1 e2
  subst e1 e2
  refine ⟨cur.setIfInBounds (off + k) (.int .i64 (ys.getD k 0)), h1, h2, ?_, by simpa using hs, fun i hik => ?_⟩
  · simp [World.setCell, Array.getElem?_modify, hb]
  · by_cases e : k = i
    · subst e; rw [Array.getElem?_setIfInBounds, if_pos rfl, if_pos (by omega)]
    · rw [Array.getElem?_setIfInBounds, if_neg (by omega)]; exact hi' i (by omega)
theorem Marking.row {E : TypeId} {w wr : World} {lo hi m : Nat} {A : Option Addr} {xs ys : List Int} (h0 : Row E w lo hi A m xs) (h : Marking E w lo hi A m m ys wr) (hl : ys.length = m) : Row E wr lo hi A m ys :=
  ⟨hl, fun hm => by
    obtain ⟨g, off, _, rfl, _⟩ := h0.2 hm
    obtain ⟨cur, h1, h2, h3, h4, h5⟩ := h.2 g off rfl hm
    exact ⟨g, off, cur, rfl, h1, h2, h3, h4, h5⟩⟩

/-- a row has been written over; how far the numbers have come is handed back -/
def Marked (E : TypeId) (lo hi : Nat) (A : Option Addr) (m : Nat) (k : Int) (w : World) (e : Ending) (w' : World) : Prop :=
  e = .returned (.int .i64 (k + m)) ∧ Row E w' lo hi A m (marks k m) ∧ Only lo hi w w'

theorem markIntS_any (E : TypeId) (lo hi : Nat) (a : Option Addr) (n c : Nat) (xs : List Int) (k0 : Int) (w : World) (hA : Row E w lo hi a n xs) (hn : n ≤ 1099511627776) (hk : 0 ≤ k0 ∧ k0 ≤ 1099511627776) :
    Calls Try.prog 12 #[.slice a n c, .int .i64 k0] w (Marked E lo hi a n k0 w) := by
  have HM := hide (show ∀ wr, Marking E w lo hi a n n (marks k0 n) wr → Marked E lo hi a n k0 w (.returned (.int .i64 (k0 + n))) wr from fun wr h => ⟨rfl, h.row hA (marks_length _ _), h.1⟩)
  have HS := hide (Marking.start (ys := marks k0 n) hA)
  have HA := hide hA
  clear hA
  go_enter Try.func12, Try.ntmps12
  go_wp2
  go_loopw [1, 5] (fun s1 s5 wr => ∃ k : Nat, k ≤ n ∧ s1 = .int .i64 (k0 + k) ∧ s5 = .int .i64 k ∧ Hid (Marking E w lo hi a n k (marks k0 n) wr)) (fun _ s5 _ => n - (intOf s5).toNat)
  case atStart => exact ⟨0, Nat.zero_le _, by simp, rfl, HS⟩
  case round =>
    obtain ⟨k, hk, rfl, rfl, A⟩ := hrel
    clear HS
    by_cases hlt : k < n
    · obtain ⟨b, off, _, rfl, _⟩ := HA.out.2 (by omega)
      obtain ⟨v, hv, hf⟩ := A.out.cell k hlt
      have HN := hide (A.out.step hlt (marks_at k0 n k hlt))
      go_wp2
      go_roundw
      case rel => exact ⟨k + 1, by omega, by go_num, by go_num, HN⟩
      case measure => simp [intOf]; omega
    · obtain rfl : k = n := by omega
      have D := hide (HM.out _ A.out)
      go_wp2
      go_ret
      exact D.out
theorem heldIntS_any (B : Nat) (a : Option Addr) (n c : Nat) (k0 : Int) (w : World) (hA : Ints .i64 w B a n (marks k0 n)) (hn : n ≤ 1099511627776) (hk : 0 ≤ k0 ∧ k0 ≤ 1099511627776) :
    Calls Try.prog 13 #[.slice a n c, .int .i64 k0] w fun e w' => e = .returned (.int .i64 (k0 + n)) ∧ w = w' := by
  obtain ⟨hl, _, hc⟩ := hA
  go_enter Try.func13, Try.ntmps13
  go_wp2
  go_loop [1, 5] (fun s1 s5 => ∃ k : Nat, k ≤ n ∧ s1 = .int .i64 (k0 + k) ∧ s5 = .int .i64 k) (fun _ s5 => n - (intOf s5).toNat)
  case atStart => exact ⟨0, Nat.zero_le _, by simp, rfl⟩
  case round =>
    obtain ⟨k, hk, rfl, rfl⟩ := hrel
    by_cases hlt : k < n
    · obtain ⟨b, off, rfl, _, hcell⟩ := hc (by omega)
      have h1 := hcell k hlt
      rw [marks_at k0 n k hlt] at h1
      clear hcell hc
      go_wp2
      go_round
      case rel => exact ⟨k + 1, by omega, by go_num, by go_num⟩
      case measure => simp [intOf]; omega
    · obtain rfl : k = n := by omega
      clear hc
      go_wp2
      go_ret
      exact ⟨rfl, rfl⟩
theorem Row.tail {E : TypeId} {w : World} {lo hi n c : Nat} {A : Option Addr} {xs : List Int} (h : Row E w lo hi A n xs) (hn : 0 < n) : Row E w lo hi (if c = 1 then A else A.map (·.add 1)) (n - 1) (xs.drop 1) ∨ (c = 1) := by
  by_cases hc : c = 1
  · exact .inr hc
  · refine .inl ⟨by rw [List.length_drop, h.1], fun h0 => ?_⟩
    obtain ⟨g, off, cur, rfl, h1, h2, h3, h4, h5⟩ := h.2 hn
    refine ⟨g, off + 1, cur, by rw [if_neg hc]; simp [Addr.add], h1, h2, h3, by omega, fun i hi => ?_⟩
    have := h5 (i + 1) (by omega)
    rw [show off + 1 + i = off + (i + 1) by omega, this]
    simp [List.getD_eq_getElem?_getD]
theorem Row.put {E : TypeId} {w : World} {lo hi n g off j : Nat} {xs : List Int} (h : Row E w lo hi (some ⟨g, off, none⟩) n xs) (hj : j < n) (x : Int) :
    Row E (w.setCell ⟨g, off + j, none⟩ (.int .i64 x)) lo hi (some ⟨g, off, none⟩) n (xs.set j x) := by
  obtain ⟨g', off', cur, e, h1, h2, h3, h4, h5⟩ := h.2 (by omega)
  injection e with e
  injection e with e1 e2
  subst e1 e2
  refine ⟨by rw [List.length_set, h.1], fun _ => ⟨g, off, cur.setIfInBounds (off + j) (.int .i64 x), rfl, h1, h2, ?_, by simpa using h4, fun i hi => ?_⟩⟩
  · simp [World.setCell, Array.getElem?_modify, h3]
  · have hx := h.1
    by_cases e : j = i
    · subst e; rw [Array.getElem?_setIfInBounds, if_pos rfl, if_pos (by omega)]; simp [List.getD_eq_getElem?_getD, hx, hj]
    · rw [Array.getElem?_setIfInBounds, if_neg (by omega), h5 i hi]; simp [List.getD_eq_getElem?_getD, e]
theorem Row.cell {E : TypeId} {w : World} {lo hi n g off : Nat} {xs : List Int} (h : Row E w lo hi (some ⟨g, off, none⟩) n xs) (j : Nat) (hj : j < n) :
    w.cell? ⟨g, off + j, none⟩ = some (.int .i64 (xs.getD j 0)) ∧ w.frozen? ⟨g, off + j, none⟩ = false := by
  obtain ⟨g', off', cur, e, h1, h2, h3, h4, h5⟩ := h.2 (by omega)
  injection e with e
  injection e with e1 e2
  subst e1 e2
  exact ⟨by rw [cell_of_row w g _ cur E (0, 0) h3]; exact h5 j hj, by simp [World.frozen?, h3]⟩

end Go.Proofs.Ythgliihdaockoaa
