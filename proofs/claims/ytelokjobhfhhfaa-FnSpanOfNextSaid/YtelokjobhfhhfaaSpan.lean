/- Spans of tracks, the program's and the reference's. Conditions: none. -/
import Derived.Test.YtelokjobhfhhfaaTrackP
import Derived.BigQuiet
namespace Go.Proofs.Ytelokjobhfhhfaa
open Go.RowKit
set_option linter.unusedVariables false
set_option linter.unusedSimpArgs false
theorem fl_take {n i : Nat} (f : Nat → Int) (h : i ≤ n) : (fl n f).take i = fl i f := by
  apply List.ext_getElem
  · simp [fl]; omega
  · intro q h1 h2
    simp [fl]
theorem sumI_fl_add (i j : Nat) (f : Nat → Int) : sumI (fl (i + j) f) = sumI (fl i f) + sumI (fl j (fun q => f (i + q))) := by
  induction j with
  | zero => rw [Nat.add_zero, show sumI (fl 0 (fun q => f (i + q))) = 0 from rfl, Int.add_zero]
  | succ j ih => rw [← Nat.add_assoc, sumI_fl_succ, ih, sumI_fl_succ]; omega
def spanB (zs : List Int) (n : Nat) (s g f m : Int) : Bool := trOkB zs n s g && (inR f 0 ((n : Int) - 1) && inR m 1 ((n : Int) - f))
def spA (zs : List Int) (n : Nat) (s g f m : Int) : Int := if spanB zs n s g f m = true then sumI (fl f.toNat (trF zs n s g)) + g * f else 0
def spS (zs : List Int) (n : Nat) (s g f m : Int) : Int := if spanB zs n s g f m = true then sumI (fl (f + m).toNat (trF zs n s g)) - sumI (fl f.toNat (trF zs n s g)) + g * (m - 1) else 0
def Span (zs : List Int) (n : Nat) (s g f m : Int) (w : World) (e : Ending) (w' : World) : Prop :=
  e = .returned (.tuple #[.int .i64 (spA zs n s g f m), .int .i64 (spS zs n s g f m), .bool (spanB zs n s g f m)]) ∧ Below w.heap.size w w'
theorem span_no {zs : List Int} {n : Nat} {s g f m : Int} {w w' : World} (h : spanB zs n s g f m = false) (hb : Below w.heap.size w w') : Span zs n s g f m w (.returned (.tuple #[.int .i64 0, .int .i64 0, .bool false])) w' :=
  ⟨by rw [spA, spS, h]; simp, hb⟩
theorem gmul_bd {g : Int} {k : Nat} (hg : 0 ≤ g ∧ g ≤ 50) (hk : k ≤ 8) : 0 ≤ g * (k : Int) ∧ g * (k : Int) ≤ 400 := by
  have h1 := Int.mul_nonneg hg.1 (show 0 ≤ (k : Int) by omega)
  have h2 := Int.mul_le_mul hg.2 (show (k : Int) ≤ 8 by omega) (by omega) (by omega : (0 : Int) ≤ 50)
  omega
theorem tr_sum_bd {zs : List Int} {n : Nat} {s g : Int} (h : validTr zs n = true) (hs : 0 ≤ s ∧ s ≤ 200000) (hg : 0 ≤ g ∧ g ≤ 50) {i j : Nat} (hij : i + j ≤ n) : 0 ≤ sumI (fl j (fun q => trF zs n s g (i + q))) ∧ sumI (fl j (fun q => trF zs n s g (i + q))) ≤ 20000000 := by
  have h1 := (validTr_iff.1 h).1
  have h2 := sumF_nonneg (f := fun q => trF zs n s g (i + q)) (l := List.range j) (fun q hq => (tr_bd h hs hg (by have := List.mem_range.1 hq; omega)).2.1)
  have h3 := sumF_le (f := fun q => trF zs n s g (i + q)) (M := 2100000) (l := List.range j) (fun q hq => (tr_bd h hs hg (by have := List.mem_range.1 hq; omega)).2.2)
  rw [List.length_range] at h3
  rw [sumI_fl]
  omega
theorem quietSp {P : Program} {f : FuncId} {args : Array Value} {w : World} {n : Nat} {v : Value}
    (h : Calls P f args (w.drewN n) fun e w' => e = .returned v ∧ w.drewN n = w') : Calls P f args (w.drewN n) fun e w'' => e = .returned v ∧ ∃ m, w'' = w.drewN m :=
  h.mono fun _ _ ⟨he, hm⟩ => ⟨he, n, hm.symm⟩
/-- the cells of a span -/
theorem ints_part {w : World} {lo hi n i j b o : Nat} {f : Nat → Int} (h : Row 3 w lo hi (some ⟨b, o, none⟩) n (fl n f)) (hij : i + j ≤ n) : Ints .i64 w hi (some ⟨b, o + i, none⟩) j (fl j (fun q => f (i + q))) := by
  refine ⟨fl_len _ _, (fun h => by cases h), fun hj => ⟨b, o + i, rfl, ?_, fun q hq => ?_⟩⟩
  · obtain ⟨g', _, _, e, _, h2, _⟩ := h.2 (by omega)
    injection e with e; injection e with e1 e2; omega
  · have h1 := (h.cell (i + q) (by omega)).1
    rw [fl_at _ (show i + q < n by omega)] at h1
    rw [fl_at _ hq, Nat.add_assoc]
    exact h1
set_option maxHeartbeats 2000000 in
theorem implSpan_any (B : Nat) (a : Option Addr) (n c : Nat) (zs : List Int) (s g f m : Int) (w : World) (hA : Ints .i64 w B a (n * 2) zs) (hB : B ≤ w.heap.size) (hn : n ≤ 1048576) :
    Calls Try.prog 23 #[.slice a n c, .int .i64 s, .int .i64 g, .int .i64 f, .int .i64 m] w (Span zs n s g f m w) := by
  have e1 : IntKind.i64.wrap ((n : Int) - 1) = (n : Int) - 1 := IntWalk.i64_in _ (by omega)
  have HD := hide (show spanB zs n s g f m = (trOkB zs n s g && (inR f 0 ((n : Int) - 1) && inR m 1 ((n : Int) - f))) from rfl)
  have HC := hide (tracksOk_any B a n c zs s g w hA hB (by omega))
  have HT := hide (fun (h : trOkB zs n s g = true) W (hb : Below w.heap.size w W) => implTracks_any B a n c zs s g W (hA.below hb hB) (by have := hb.size; omega) (trOkB_iff.1 h).1 (trOkB_iff.1 h).2.1 (trOkB_iff.1 h).2.2)
  clear hA
  cases h0 : trOkB zs n s g
  case false =>
    have hs := hide (show spanB zs n s g f m = false by rw [HD.out, h0]; rfl)
    rw [h0] at HC
    go_enter Try.func23, Try.ntmps23
    go_wp2_with (go_at_call 33; refine HC.out.mono ?_; rintro e w1 ⟨rfl, hb⟩; have HB := hide hb; have hz := hb.size; clear hb)
    exact bodyPost_ret (v := .tuple #[.int .i64 0, .int .i64 0, .bool false]) (by simp [results, Try.results23, go_sem]) rfl (span_no hs.out HB.out)
  case true =>
    rw [h0] at HC
    cases h1 : inR f 0 ((n : Int) - 1)
    case false =>
      have hs := hide (show spanB zs n s g f m = false by rw [HD.out, h0, h1]; rfl)
      go_enter Try.func23, Try.ntmps23
      go_wp2_with (first | (go_at_call 33; refine HC.out.mono ?_; rintro e w1 ⟨rfl, hb⟩; have HB := hide hb; have hz := hb.size; clear hb) | (go_at_call 27; with_reducible refine (within_is h1 _).mono ?_; rintro e w' ⟨rfl, rfl⟩))
      exact bodyPost_ret (v := .tuple #[.int .i64 0, .int .i64 0, .bool false]) (by simp [results, Try.results23, go_sem]) rfl (span_no hs.out HB.out)
    case true =>
      have hf := inR_iff.1 h1
      have e2 : IntKind.i64.wrap ((n : Int) - f) = (n : Int) - f := IntWalk.i64_in _ (by omega)
      cases h2 : inR m 1 ((n : Int) - f)
      case false =>
        have hs := hide (show spanB zs n s g f m = false by rw [HD.out, h0, h1, h2]; rfl)
        go_enter Try.func23, Try.ntmps23
        go_wp2_with (first | (go_at_call 33; refine HC.out.mono ?_; rintro e w1 ⟨rfl, hb⟩; have HB := hide hb; have hz := hb.size; clear hb) | (go_at_call 27; with_reducible refine (within_is h1 _).mono ?_; rintro e w' ⟨rfl, rfl⟩) | (go_at_call 27; with_reducible refine (within_is h2 _).mono ?_; rintro e w' ⟨rfl, rfl⟩))
        exact bodyPost_ret (v := .tuple #[.int .i64 0, .int .i64 0, .bool false]) (by simp [results, Try.results23, go_sem]) rfl (span_no hs.out HB.out)
      case true =>
        have hs := hide (show spanB zs n s g f m = true by rw [HD.out, h0, h1, h2]; rfl)
        have HT2 := hide (HT.out h0)
        clear HT HD
        go_enter Try.func23, Try.ntmps23
        go_wp2_with (first | (go_at_call 33; refine HC.out.mono ?_; rintro e w1 ⟨rfl, hb⟩; have HB := hide hb; have hz := hb.size; clear hb) | (go_at_call 27; with_reducible refine (within_is h1 _).mono ?_; rintro e w' ⟨rfl, rfl⟩) | (go_at_call 27; with_reducible refine (within_is h2 _).mono ?_; rintro e w' ⟨rfl, rfl⟩))
        refine (HT2.out w1 HB.out).mono ?_
        rintro e w2 ⟨A, n2, c2, rfl, p1, p2, rP, hb2⟩
        have HB2 := hide (HB.out.trans (hb2.mono hz))
        clear HT2 HC HB hb2
        obtain rfl : n = n2 := by have h3 := rP.1; rw [trackL, fl_len] at h3; exact h3
        have RP := hide rP
        clear rP
        have hm := inR_iff.1 h2
        obtain ⟨hv, hsp, hg⟩ := trOkB_iff.1 h0
        have hn1 := (validTr_iff.1 hv).1
        clear h1 h2 e1 e2
        obtain ⟨i, rfl⟩ := Int.eq_ofNat_of_zero_le hf.1
        obtain ⟨j, rfl⟩ := Int.eq_ofNat_of_zero_le (show 0 ≤ m by omega)
        have hij : i + j ≤ n := by omega
        have hj1 : 1 ≤ j := by omega
        obtain ⟨b, o, _, rfl, _⟩ := RP.out.2 (by omega)
        have hb1 := tr_sum_bd (i := 0) (j := i) hv hsp hg (by omega)
        simp only [Nat.zero_add] at hb1
        have hb2 := tr_sum_bd (i := i) (j := j) hv hsp hg hij
        have hadd := sumI_fl_add i j (trF zs n s g)
        have T1 := hide (show ∀ q, Calls Try.prog 40 #[.slice (some ⟨b, o, none⟩) i c2] (w2.drewN q) fun e w' => e = .returned (.int .i64 (sumI (fl i (trF zs n s g)))) ∧ w2.drewN q = w' from fun q => total_any w2.heap.size _ i c2 _ _ (by have h := (RP.out.ints.le (show i ≤ n by omega)); rw [trackL, fl_take _ (show i ≤ n by omega)] at h; exact h.keep (fun _ _ _ => rfl)) (by omega) (fl_small fun q hq => by have := (tr_bd hv hsp hg (show q < n by omega)).2; omega))
        have T2 := hide (show ∀ q, Calls Try.prog 40 #[.slice (some ⟨b, o + i, none⟩) j (c2 - i)] (w2.drewN q) fun e w' => e = .returned (.int .i64 (sumI (fl j (fun q => trF zs n s g (i + q))))) ∧ w2.drewN q = w' from fun q => total_any w2.heap.size _ j (c2 - i) _ _ ((ints_part RP.out hij).keep (fun _ _ _ => rfl)) (by omega) (fl_small fun q hq => by have := (tr_bd hv hsp hg (show i + q < n by omega)).2; omega))
        have hA1 := hide (show spA zs n s g i j = sumI (fl i (trF zs n s g)) + g * (i : Int) by rw [spA, if_pos hs.out]; rfl)
        have hS1 := hide (show spS zs n s g i j = sumI (fl j (fun q => trF zs n s g (i + q))) + g * ((j : Int) - 1) by rw [spS, if_pos hs.out, show ((i : Int) + (j : Int)).toNat = i + j by omega, show ((i : Int)).toNat = i from rfl, hadd]; omega)
        have hg1 := gmul_bd (k := i) hg (by omega)
        have hg2 := gap_bd (n := j) hg (by omega)
        clear hadd hm hv hsp RP
        generalize sumI (fl i (trF zs n s g)) = X at hb1 T1 hA1
        generalize sumI (fl j (fun q => trF zs n s g (i + q))) = Y at hb2 T2 hS1
        obtain ⟨G1, hG1⟩ : ∃ G1, g * (i : Int) = G1 := ⟨_, rfl⟩
        obtain ⟨G2, hG2⟩ : ∃ G2, g * ((j : Int) - 1) = G2 := ⟨_, rfl⟩
        have f1 : IntKind.i64.wrap (g * (i : Int)) = G1 := by rw [hG1]; exact IntWalk.i64_in _ (by omega)
        have f2 : IntKind.i64.wrap ((j : Int) - 1) = (j : Int) - 1 := IntWalk.i64_in _ (by omega)
        have f3 : IntKind.i64.wrap (g * ((j : Int) - 1)) = G2 := by rw [hG2]; exact IntWalk.i64_in _ (by omega)
        rw [hG1] at hg1 hA1
        rw [hG2] at hg2 hS1
        have HG1 := hide hG1
        clear hG1 hG2
        have f4 : IntKind.i64.wrap (X + G1) = X + G1 := IntWalk.i64_in _ (by omega)
        have f5 : IntKind.i64.wrap (Y + G2) = Y + G2 := IntWalk.i64_in _ (by omega)
        have f6 : IntKind.i64.wrap ((i : Int) + (j : Int)) = ((i + j : Nat) : Int) := by rw [IntWalk.i64_in _ (by omega)]; omega
        have k1 : i ≤ c2 := by omega
        have k2 : i + j ≤ c2 := by omega
        have k3 : (i : Int) ≤ (c2 : Int) := by omega
        have k4 : ((i + j : Nat) : Int) ≤ (c2 : Int) := by omega
        have k5 : (i : Int) ≤ ((i + j : Nat) : Int) := by omega
        have k6 : i ≤ i + j := by omega
        have k7 : ¬ c2 = i := by omega
        have k8 : i + j - i = j := by omega
        have k9 : ¬ i = c2 := by omega
        have DD := hide (show ∀ q, Span zs n s g i j w (.returned (.tuple #[.int .i64 (X + G1), .int .i64 (Y + G2), .bool true])) (w2.drewN q) from fun q => ⟨by rw [hA1.out, hS1.out, hs.out], below_drewN HB2.out q⟩)
        clear hA1 hS1 hs HB2
        by_cases hi0 : i = 0
        · subst hi0
          obtain rfl : G1 = 0 := by have h := HG1.out; simp at h; omega
          rw [Int.add_zero] at DD
          go_wp2_with fail
          go_quiet (first | (go_at_call 40; with_reducible exact quietSp (T1.out _)) | (go_at_call 40; with_reducible exact quietSp (T2.out _)))
          go_wp2
          exact bodyPost_ret (v := .tuple #[.int .i64 X, .int .i64 (Y + G2), .bool true]) (by simp [results, Try.results23, go_sem]) rfl (DD.out _)
        · have hi1 : 0 < i := by omega
          go_wp2_with fail
          go_quiet (first | (go_at_call 40; with_reducible exact quietSp (T1.out _)) | (go_at_call 40; with_reducible exact quietSp (T2.out _)))
          go_wp2
          exact bodyPost_ret (v := .tuple #[.int .i64 (X + G1), .int .i64 (Y + G2), .bool true]) (by simp [results, Try.results23, go_sem]) rfl (DD.out _)
set_option maxHeartbeats 2000000 in
theorem specSpan_any (B : Nat) (a : Option Addr) (n c : Nat) (zs : List Int) (s g f m : Int) (w : World) (hA : Ints .i64 w B a (n * 2) zs) (hB : B ≤ w.heap.size) (hn : n ≤ 1048576) :
    Calls Try.prog 22 #[.slice a n c, .int .i64 s, .int .i64 g, .int .i64 f, .int .i64 m] w (Span zs n s g f m w) := by
  have e1 : IntKind.i64.wrap ((n : Int) - 1) = (n : Int) - 1 := IntWalk.i64_in _ (by omega)
  have HD := hide (show spanB zs n s g f m = (trOkB zs n s g && (inR f 0 ((n : Int) - 1) && inR m 1 ((n : Int) - f))) from rfl)
  have HC := hide (specSizes_any B a n c zs s g w hA hB (by omega))
  clear hA
  cases h0 : trOkB zs n s g
  case false =>
    have hs := hide (show spanB zs n s g f m = false by rw [HD.out, h0]; rfl)
    have h1 : inR f 0 (-1) = false := by rw [inR_not]; omega
    have e0 : IntKind.i64.wrap ((0 : Int) - 1) = -1 := by decide
    go_enter Try.func22, Try.ntmps22
    go_wp2_with fail
    refine HC.out.mono ?_
    rintro e w1 ⟨A, n2, c2, rfl, p1, p2, rP, hb⟩
    have h2 : n2 = 0 := by have h3 := rP.1; rw [sizes_len, if_neg (by rw [h0]; simp)] at h3; exact h3.symm
    subst h2
    have HB := hide hb
    clear hb HC rP
    go_wp2_with (go_at_call 35; with_reducible refine (inRange_is h1 _).mono ?_; rintro e w' ⟨rfl, rfl⟩)
    exact bodyPost_ret (v := .tuple #[.int .i64 0, .int .i64 0, .bool false]) (by simp [results, Try.results22, go_sem]) rfl (span_no hs.out HB.out)
  case true =>
    have hsz := hide (show sizesT zs n s g = trackL zs n s g from if_pos h0)
    go_enter Try.func22, Try.ntmps22
    go_wp2_with fail
    refine HC.out.mono ?_
    rintro e w2 ⟨A, n2, c2, rfl, p1, p2, rP, hb⟩
    rw [hsz.out] at rP
    obtain rfl : n = n2 := by have h3 := rP.1; rw [trackL, fl_len] at h3; exact h3
    have HB2 := hide hb
    have RP := hide rP
    clear hb HC rP hsz
    cases h1 : inR f 0 ((n : Int) - 1)
    case false =>
      have hs := hide (show spanB zs n s g f m = false by rw [HD.out, h0, h1]; rfl)
      go_wp2_with (go_at_call 35; with_reducible refine (inRange_is h1 _).mono ?_; rintro e w' ⟨rfl, rfl⟩)
      exact bodyPost_ret (v := .tuple #[.int .i64 0, .int .i64 0, .bool false]) (by simp [results, Try.results22, go_sem]) rfl (span_no hs.out HB2.out)
    case true =>
      have hf := inR_iff.1 h1
      have e2 : IntKind.i64.wrap ((n : Int) - f) = (n : Int) - f := IntWalk.i64_in _ (by omega)
      cases h2 : inR m 1 ((n : Int) - f)
      case false =>
        have hs := hide (show spanB zs n s g f m = false by rw [HD.out, h0, h1, h2]; rfl)
        go_wp2_with (first | (go_at_call 35; with_reducible refine (inRange_is h1 _).mono ?_; rintro e w' ⟨rfl, rfl⟩) | (go_at_call 35; with_reducible refine (inRange_is h2 _).mono ?_; rintro e w' ⟨rfl, rfl⟩))
        exact bodyPost_ret (v := .tuple #[.int .i64 0, .int .i64 0, .bool false]) (by simp [results, Try.results22, go_sem]) rfl (span_no hs.out HB2.out)
      case true =>
        have hs := hide (show spanB zs n s g f m = true by rw [HD.out, h0, h1, h2]; rfl)
        clear HD
        go_wp2_with (first | (go_at_call 35; with_reducible refine (inRange_is h1 _).mono ?_; rintro e w' ⟨rfl, rfl⟩) | (go_at_call 35; with_reducible refine (inRange_is h2 _).mono ?_; rintro e w' ⟨rfl, rfl⟩))
        have hm := inR_iff.1 h2
        obtain ⟨hv, hsp, hg⟩ := trOkB_iff.1 h0
        have hn1 := (validTr_iff.1 hv).1
        clear h1 h2 e1 e2
        obtain ⟨i, rfl⟩ := Int.eq_ofNat_of_zero_le hf.1
        obtain ⟨j, rfl⟩ := Int.eq_ofNat_of_zero_le (show 0 ≤ m by omega)
        have hij : i + j ≤ n := by omega
        have hj1 : 1 ≤ j := by omega
        obtain ⟨b, o, _, rfl, _⟩ := RP.out.2 (by omega)
        have hb1 := tr_sum_bd (i := 0) (j := i) hv hsp hg (by omega)
        simp only [Nat.zero_add] at hb1
        have hb2 := tr_sum_bd (i := i) (j := j) hv hsp hg hij
        have hadd := sumI_fl_add i j (trF zs n s g)
        have T1 := hide (show ∀ q, Calls Try.prog 39 #[.slice (some ⟨b, o, none⟩) i c2] (w2.drewN q) fun e w' => e = .returned (.int .i64 (sumI (fl i (trF zs n s g)))) ∧ w2.drewN q = w' from fun q => specSum_any w2.heap.size _ i c2 _ _ (by have h := (RP.out.ints.le (show i ≤ n by omega)); rw [trackL, fl_take _ (show i ≤ n by omega)] at h; exact h.keep (fun _ _ _ => rfl)) (by omega) (fl_small fun q hq => by have := (tr_bd hv hsp hg (show q < n by omega)).2; omega))
        have T2 := hide (show ∀ q, Calls Try.prog 39 #[.slice (some ⟨b, o + i, none⟩) j (c2 - i)] (w2.drewN q) fun e w' => e = .returned (.int .i64 (sumI (fl j (fun q => trF zs n s g (i + q))))) ∧ w2.drewN q = w' from fun q => specSum_any w2.heap.size _ j (c2 - i) _ _ ((ints_part RP.out hij).keep (fun _ _ _ => rfl)) (by omega) (fl_small fun q hq => by have := (tr_bd hv hsp hg (show i + q < n by omega)).2; omega))
        have hA1 := hide (show spA zs n s g i j = sumI (fl i (trF zs n s g)) + g * (i : Int) by rw [spA, if_pos hs.out]; rfl)
        have hS1 := hide (show spS zs n s g i j = sumI (fl j (fun q => trF zs n s g (i + q))) + g * ((j : Int) - 1) by rw [spS, if_pos hs.out, show ((i : Int) + (j : Int)).toNat = i + j by omega, show ((i : Int)).toNat = i from rfl, hadd]; omega)
        have hg1 := gmul_bd (k := i) hg (by omega)
        have hg2 := gap_bd (n := j) hg (by omega)
        clear hadd hm hv hsp RP
        generalize sumI (fl i (trF zs n s g)) = X at hb1 T1 hA1
        generalize sumI (fl j (fun q => trF zs n s g (i + q))) = Y at hb2 T2 hS1
        obtain ⟨G1, hG1⟩ : ∃ G1, g * (i : Int) = G1 := ⟨_, rfl⟩
        obtain ⟨G2, hG2⟩ : ∃ G2, g * ((j : Int) - 1) = G2 := ⟨_, rfl⟩
        have f1 : IntKind.i64.wrap (g * (i : Int)) = G1 := by rw [hG1]; exact IntWalk.i64_in _ (by omega)
        have f2 : IntKind.i64.wrap ((j : Int) - 1) = (j : Int) - 1 := IntWalk.i64_in _ (by omega)
        have f3 : IntKind.i64.wrap (g * ((j : Int) - 1)) = G2 := by rw [hG2]; exact IntWalk.i64_in _ (by omega)
        rw [hG1] at hg1 hA1
        rw [hG2] at hg2 hS1
        have HG1 := hide hG1
        clear hG1 hG2
        have f4 : IntKind.i64.wrap (X + G1) = X + G1 := IntWalk.i64_in _ (by omega)
        have f5 : IntKind.i64.wrap (Y + G2) = Y + G2 := IntWalk.i64_in _ (by omega)
        have f6 : IntKind.i64.wrap ((i : Int) + (j : Int)) = ((i + j : Nat) : Int) := by rw [IntWalk.i64_in _ (by omega)]; omega
        have k1 : i ≤ c2 := by omega
        have k2 : i + j ≤ c2 := by omega
        have k3 : (i : Int) ≤ (c2 : Int) := by omega
        have k4 : ((i + j : Nat) : Int) ≤ (c2 : Int) := by omega
        have k5 : (i : Int) ≤ ((i + j : Nat) : Int) := by omega
        have k6 : i ≤ i + j := by omega
        have k7 : ¬ c2 = i := by omega
        have k8 : i + j - i = j := by omega
        have k9 : ¬ i = c2 := by omega
        have DD := hide (show ∀ q, Span zs n s g i j w (.returned (.tuple #[.int .i64 (X + G1), .int .i64 (Y + G2), .bool true])) (w2.drewN q) from fun q => ⟨by rw [hA1.out, hS1.out, hs.out], below_drewN HB2.out q⟩)
        clear hA1 hS1 hs HB2
        by_cases hi0 : i = 0
        · subst hi0
          obtain rfl : G1 = 0 := by have h := HG1.out; simp at h; omega
          rw [Int.add_zero] at DD
          go_wp2_with fail
          go_quiet (first | (go_at_call 39; with_reducible exact quietSp (T1.out _)) | (go_at_call 39; with_reducible exact quietSp (T2.out _)))
          go_wp2
          exact bodyPost_ret (v := .tuple #[.int .i64 X, .int .i64 (Y + G2), .bool true]) (by simp [results, Try.results22, go_sem]) rfl (DD.out _)
        · have hi1 : 0 < i := by omega
          go_wp2_with fail
          go_quiet (first | (go_at_call 39; with_reducible exact quietSp (T1.out _)) | (go_at_call 39; with_reducible exact quietSp (T2.out _)))
          go_wp2
          exact bodyPost_ret (v := .tuple #[.int .i64 (X + G1), .int .i64 (Y + G2), .bool true]) (by simp [results, Try.results22, go_sem]) rfl (DD.out _)
end Go.Proofs.Ytelokjobhfhhfaa
