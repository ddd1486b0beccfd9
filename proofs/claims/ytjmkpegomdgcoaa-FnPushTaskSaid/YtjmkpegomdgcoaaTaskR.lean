/- A task is pushed: the reference's answer. Conditions: none. -/
import Derived.Test.YtjmkpegomdgcoaaTaskP
import Derived.BigRegion
namespace Go.Proofs.Ytjmkpegomdgcoaa
open Go.RowKit
set_option linter.unusedVariables false
set_option linter.unusedSimpArgs false
theorem inRange_is2 {n lo hi : Int} {b : Bool} (h : inR n lo hi = b) (w : World) : Calls Try.prog 29 #[.int .i64 n, .int .i64 lo, .int .i64 hi] w fun e w' => e = .returned (.bool b) ∧ w = w' := h ▸ inRange_any n lo hi w
def PushR (ts : List Tk) (id rank : Int) (w : World) (e : Ending) (w' : World) : Prop :=
  ∃ (A : Option Addr) (m c : Nat), e = .returned (.tuple #[.slice A m c, .bool (pushOk ts id rank)]) ∧ Own 39 3 w' w.heap.size (.slice A m c) m (flat (pushS ts id rank)) ∧ Below w.heap.size w w'
theorem push_no {ts : List Tk} {id rank : Int} {w w' : World} (h : pushOk ts id rank = false) (hb : Below w.heap.size w w') : PushR ts id rank w (.returned (.tuple #[.slice none 0 0, .bool false])) w' :=
  ⟨none, 0, 0, by rw [h], by rw [pushS, if_neg (by rw [h]; simp)]; exact Own.nil _ _ _ _, hb⟩
/-- a list of tasks so far, beside one task in a box -/
structure PR (w : World) (us : List Tk) (t : Tk) (m : Nat) (s : Value) (W : World) : Prop where
  len : us.length = m
  own : Own 39 3 W w.heap.size s m (flat us)
  box : Row 39 W (w.heap.size + 1) (w.heap.size + 2) (some ⟨w.heap.size + 1, 0, none⟩) 3 [t.id, t.rank, t.age]
  below : Below w.heap.size w W
  size : w.heap.size + 2 ≤ W.heap.size
  ne : s.ownBlock ≠ some (w.heap.size + 1)
theorem PR.push {w W W' : World} {us : List Tk} {t u : Tk} {m : Nat} {s v : Value} (h : PR w us t m s W) (ho : Own 39 3 W' w.heap.size v (m + 1) (flat us ++ [u.id, u.rank, u.age])) (hb : Below w.heap.size W W') (hg : W.grownBy W' s.ownBlock) (hv : v.ownBlock = s.ownBlock ∨ v.ownBlock = some (W.heap.size + 1)) : PR w (us ++ [u]) t (m + 1) v W' where
  len := by rw [List.length_append, h.len]; rfl
  own := by rw [flat_append]; exact ho
  box := h.box.keep fun k h1 h2 h3 => hg.block k h3 (fun e => h.ne (by rw [← e, show k = w.heap.size + 1 by omega]))
  below := h.below.trans hb
  size := by have := hg.size; have := h.size; omega
  ne := by
    rcases hv with hv | hv
    · rw [hv]; exact h.ne
    · rw [hv]; intro e; injection e with e; have := h.size; omega
theorem PR.drewN {w W : World} {us : List Tk} {t : Tk} {m : Nat} {s : Value} (h : PR w us t m s W) (q : Nat) : PR w us t m s (W.drewN q) :=
  ⟨h.len, h.own.keep ⟨rfl, rfl, rfl, Nat.le_refl _, fun _ _ => rfl⟩, h.box.keep fun _ _ _ _ => rfl, below_drewN h.below q, h.size, h.ne⟩
theorem PR.setBox {w W : World} {us : List Tk} {t : Tk} {m : Nat} {s : Value} (h : PR w us t m s W) (x y z : Int) : PR w us ⟨x, y, z⟩ m s (((W.setCell ⟨w.heap.size + 1, 0, none⟩ (.int .i64 x)).setCell ⟨w.heap.size + 1, 1, none⟩ (.int .i64 y)).setCell ⟨w.heap.size + 1, 2, none⟩ (.int .i64 z)) := by
  have g1 := only_setCell (only_refl W (some (w.heap.size + 1))) (p := ⟨w.heap.size + 1, 0, none⟩) (.inl rfl) (.int .i64 x)
  have g2 := only_setCell g1 (p := ⟨w.heap.size + 1, 1, none⟩) (.inl rfl) (.int .i64 y)
  have hg3 := only_setCell g2 (p := ⟨w.heap.size + 1, 2, none⟩) (.inl rfl) (.int .i64 z)
  have h1 := h.box.put (show 0 < 3 by omega) x
  rw [Nat.zero_add] at h1
  have h2 := h1.put (show 1 < 3 by omega) y
  rw [Nat.zero_add] at h2
  have h3 := h2.put (show 2 < 3 by omega) z
  rw [Nat.zero_add] at h3
  simp only [List.set] at h3
  have hb := ((h.below.setCell (p := ⟨w.heap.size + 1, 0, none⟩) (by show w.heap.size ≤ w.heap.size + 1; omega) (.int .i64 x)).setCell (p := ⟨w.heap.size + 1, 1, none⟩) (by show w.heap.size ≤ w.heap.size + 1; omega) (.int .i64 y)).setCell (p := ⟨w.heap.size + 1, 2, none⟩) (by show w.heap.size ≤ w.heap.size + 1; omega) (.int .i64 z)
  have hz : w.heap.size + 2 ≤ (((W.setCell ⟨w.heap.size + 1, 0, none⟩ (.int .i64 x)).setCell ⟨w.heap.size + 1, 1, none⟩ (.int .i64 y)).setCell ⟨w.heap.size + 1, 2, none⟩ (.int .i64 z)).heap.size := by have := h.size; simpa [World.setCell] using this
  exact ⟨h.len, h.own.far hg3 (.inr h.ne), h3, hb, hz, h.ne⟩
theorem Tk.eta (t : Tk) : (⟨t.id, t.rank, t.age⟩ : Tk) = t := rfl
set_option maxHeartbeats 4000000 in
theorem specPush_any (B : Nat) (a : Option Addr) (n c : Nat) (ts : List Tk) (id rank : Int) (w : World) (hA : Ints .i64 w B a (n * 3) (flat ts)) (hB : B ≤ w.heap.size) (hn : n ≤ 1048577) :
    Calls Try.prog 15 #[.slice a n c, .int .i64 id, .int .i64 rank] w (PushR ts id rank w) := by
  obtain ⟨i0, hi, hz0, hz1, hz2⟩ := info_parts Task_info
  have hb0 : Below w.heap.size w ((w.alloc (.cells #[] 39)).alloc (.cells #[.int .i64 id, .int .i64 rank, .int .i64 0] 39)) := ((Below.refl _ _).alloc (Nat.le_refl _) _).alloc (by simp) _
  have HC := hide (specValid0_any B a n c ts _ (hA.below hb0 hB) (by simp; omega) hn)
  have HA := hide (fun W (h : Below w.heap.size w W) => hA.below h hB)
  have hl := hide (show ts.length = n by have := hA.1; rw [flat_len] at this; omega)
  have HB0 := hide hb0
  have HD := hide (show pushOk ts id rank = (validT ts && (inR id 0 99 && (inR rank 0 50 && decide ((pushL id rank ts).length ≤ 10)))) from rfl)
  have HP0 := hide (show PR w [] ⟨id, rank, 0⟩ 0 (.slice (some ⟨w.heap.size, 0, none⟩) 0 0) ((w.alloc (.cells #[] 39)).alloc (.cells #[.int .i64 id, .int .i64 rank, .int .i64 0] 39)) from {
    len := rfl
    own := (Own.made 39 3 w #[] 0 w.heap.size (Nat.le_refl _) (by omega) rfl).keep ((Below.refl _ _).alloc (Nat.le_refl _) _)
    box := ⟨rfl, fun _ => ⟨w.heap.size + 1, 0, #[.int .i64 id, .int .i64 rank, .int .i64 0], rfl, Nat.le_refl _, Nat.lt_succ_self _, by
      have h := heap_alloc_new (w.alloc (.cells #[] 39)) (.cells #[.int .i64 id, .int .i64 rank, .int .i64 0] 39)
      rw [show (w.alloc (.cells #[] 39)).heap.size = w.heap.size + 1 by simp] at h
      exact h, by simp, fun i hi => by
      match i, hi with
      | 0, _ => rfl
      | 1, _ => rfl
      | 2, _ => rfl⟩⟩
    below := hb0
    size := by simp
    ne := by simp [Value.ownBlock] })
  clear hA hb0
  have keepPR := hide (fun (us : List Tk) (t : Tk) (m : Nat) (s : Value) (W W' : World) (h : PR w us t m s W) (hb : Below W.heap.size W W') => (⟨h.len, h.own.keep hb, h.box.belowS hb, h.below.trans (hb.mono (by have := h.size; omega)), by have := h.size; have := hb.size; omega, h.ne⟩ : PR w us t m s W'))
  cases h0 : validT ts
  case false =>
    have hs := hide (show pushOk ts id rank = false by rw [HD.out, h0]; rfl)
    rw [h0] at HC
    go_enter Try.func15, Try.ntmps15
    go_wp2_with (go_at_call 21; refine HC.out.mono ?_; rintro e w1 ⟨rfl, hb⟩; have HB := hide (HB0.out.trans (hb.mono (by simp <;> omega))); clear hb)
    go_ret2
    exact push_no hs.out HB.out
  case true =>
    rw [h0] at HC
    cases h1 : inR id 0 99
    case false =>
      have hs := hide (show pushOk ts id rank = false by rw [HD.out, h0, h1]; rfl)
      go_enter Try.func15, Try.ntmps15
      go_wp2_with (first | (go_at_call 21; refine HC.out.mono ?_; rintro e w1 ⟨rfl, hb⟩; have HB := hide (HB0.out.trans (hb.mono (by simp <;> omega))); clear hb) | (go_at_call 29; with_reducible refine (inRange_is2 h1 _).mono ?_; rintro e w' ⟨rfl, rfl⟩))
      go_ret2
      exact push_no hs.out HB.out
    case true =>
      cases h2 : inR rank 0 50
      case false =>
        have hs := hide (show pushOk ts id rank = false by rw [HD.out, h0, h1, h2]; rfl)
        go_enter Try.func15, Try.ntmps15
        go_wp2_with (first | (go_at_call 21; refine HC.out.mono ?_; rintro e w1 ⟨rfl, hb⟩; have HB := hide (HB0.out.trans (hb.mono (by simp <;> omega))); clear hb) | (go_at_call 29; with_reducible refine (inRange_is2 h1 _).mono ?_; rintro e w' ⟨rfl, rfl⟩) | (go_at_call 29; with_reducible refine (inRange_is2 h2 _).mono ?_; rintro e w' ⟨rfl, rfl⟩))
        go_ret2
        exact push_no hs.out HB.out
      case true =>
        have hv := validT_iff.1 h0
        have hn10 : n ≤ 10 := by rw [← hl.out]; exact hv.2.2
        have HSP := hide (pushL_split (id := id) (rank := rank) hv.2.1)
        have HPV := hide (pushL_valid (id := id) (rank := rank) h0 (inR_iff.1 h1) (inR_iff.1 h2))
        have HD2 := hide (show pushOk ts id rank = decide ((pushL id rank ts).length ≤ 10) by rw [HD.out, h0, h1, h2]; rfl)
        clear hv HD
        go_enter Try.func15, Try.ntmps15
        go_wp2_with (first | (go_at_call 21; refine HC.out.mono ?_; rintro e w1 ⟨rfl, hb⟩; have HP1 := hide (keepPR.out _ _ _ _ _ _ HP0.out hb); clear hb) | (go_at_call 29; with_reducible refine (inRange_is2 h1 _).mono ?_; rintro e w' ⟨rfl, rfl⟩) | (go_at_call 29; with_reducible refine (inRange_is2 h2 _).mono ?_; rintro e w' ⟨rfl, rfl⟩))
        clear HP0 HC HB0 h0 h1 h2
        go_loopw [8, 10] (fun s8 s10 wr => ∃ (k m : Nat) (W9 : World), k ≤ n ∧ s10 = .int .i64 k ∧ W9 = wr ∧ Hid (PR w (lowT id (ts.take k)) (nextT id rank ts k) m s8 W9)) (fun _ s10 _ => n - (intOf s10).toNat)
        case atStart => exact ⟨0, 0, _, Nat.zero_le _, rfl, rfl, HP1⟩
        case round =>
          clear HP1
          obtain ⟨k, m, W9, hk, rfl, rfl, HP⟩ := hrel
          obtain ⟨A8, c8, e8, h81, h82, _⟩ := HP.out.own.form
          subst e8
          have hsz := HP.out.size
          have hml := hide HP.out.len
          by_cases hlt : k < n
          · obtain ⟨b, off, rfl, hbB, hcell⟩ := (HA.out _ HP.out.below).2.2 (by omega)
            have c0 := hcell (k * 3) (by omega)
            have c1 := hcell (k * 3 + 1) (by omega)
            have c2 := hcell (k * 3 + 2) (by omega)
            obtain ⟨q0, q1, q2⟩ := flat_at ts k
            rw [q0] at c0; rw [q1] at c1; rw [q2] at c2
            rw [← Nat.add_assoc] at c1 c2
            clear q0 q1 q2 hcell
            have HLS := hide (lowT_take_succ (id := id) (ts := ts) (k := k) (by rw [hl.out]; exact hlt))
            have HNS := hide (show nextT id rank ts (k + 1) = if (tk ts k).id = id then ⟨id, min rank (tk ts k).rank, (tk ts k).age⟩ else nextT id rank ts k from rfl)
            have hmm : m ≤ 10 := by
              rw [← hml.out]
              have h3 : (lowT id (ts.take k)).length ≤ (ts.take k).length := List.length_filter_le _ _
              rw [List.length_take] at h3
              omega
            obtain ⟨⟨x0, x1, x2⟩, ht⟩ : ∃ t, tk ts k = t := ⟨_, rfl⟩
            rw [ht] at c0 c1 c2 HLS HNS
            clear ht
            change _ = some (Value.int .i64 x0) at c0
            change _ = some (Value.int .i64 x1) at c1
            change _ = some (Value.int .i64 x2) at c2
            have k1 : (k : Int) < (n : Int) := by omega
            by_cases hx : x0 < id
            · have HL2 := hide (show lowT id (ts.take (k + 1)) = lowT id (ts.take k) ++ [⟨x0, x1, x2⟩] by rw [HLS.out, if_pos hx])
              have HN2 := hide (show nextT id rank ts (k + 1) = nextT id rank ts k by rw [HNS.out, if_neg (show ¬ x0 = id by omega)])
              clear HLS HNS
              go_wp2_with (at_builtin; refine wpList_push rfl (.tmp 43) (.tmp 48) 25 39 3 24 i0 _ rfl Try.underlying25 hi hz0 hz1 hz2 rfl (by omega) (by omega) W9 w.heap.size (.slice A8 m c8) m _ rfl HP.out.own [x0, x1, x2] 1 1 rfl rfl (by omega) (by omega) ?_; intro v1 w1' ho1 hb1' hg1 hv1; have D := hide (show PR w (lowT id (ts.take (k + 1))) (nextT id rank ts (k + 1)) (m + 1) v1 w1' by rw [HL2.out, HN2.out]; exact HP.out.push (u := ⟨x0, x1, x2⟩) ho1 hb1' hg1 hv1); clear ho1 hb1' hg1 hv1)
              go_roundw
              case rel => exact ⟨k + 1, m + 1, _, by omega, by go_num, rfl, D⟩
              case measure => simp [intOf]; omega
            · have HL2 := hide (show lowT id (ts.take (k + 1)) = lowT id (ts.take k) by rw [HLS.out, if_neg hx, List.append_nil])
              by_cases hxe : x0 = id
              · subst hxe
                have HN2 := hide (show nextT x0 rank ts (k + 1) = ⟨x0, min rank x1, x2⟩ by rw [HNS.out, if_pos rfl])
                clear HLS HNS
                obtain ⟨b0, f0⟩ := HP.out.box.cell 0 (by omega)
                obtain ⟨b1, f1⟩ := HP.out.box.cell 1 (by omega)
                obtain ⟨b2, f2⟩ := HP.out.box.cell 2 (by omega)
                rw [Nat.zero_add] at b0 f0 b1 f1 b2 f2
                have hne : b ≠ w.heap.size + 1 := by omega
                have HPP := hide (fun z : Int => HP.out.setBox x0 z x2)
                clear HP
                rcases Int.lt_trichotomy rank x1 with hr | hr | hr
                · have HM := hide (show min rank x1 = rank by omega)
                  have D := hide (show PR w (lowT x0 (ts.take (k + 1))) (nextT x0 rank ts (k + 1)) m (.slice A8 m c8) (((W9.setCell ⟨w.heap.size + 1, 0, none⟩ (.int .i64 x0)).setCell ⟨w.heap.size + 1, 1, none⟩ (.int .i64 rank)).setCell ⟨w.heap.size + 1, 2, none⟩ (.int .i64 x2)) by rw [HL2.out, HN2.out, HM.out]; exact HPP.out rank)
                  clear HPP HM
                  go_wp2_with fail
                  go_region
                  clear c0 c1 c2 b0 b1 b2 f0 f1 f2
                  go_wp2
                  go_roundw
                  case rel => exact ⟨k + 1, m, _, by omega, by go_num, rfl, hide (D.out.drewN 1)⟩
                  case measure => simp [intOf]; omega
                · subst hr
                  have HM := hide (show min rank rank = rank by omega)
                  have D := hide (show PR w (lowT x0 (ts.take (k + 1))) (nextT x0 rank ts (k + 1)) m (.slice A8 m c8) (((W9.setCell ⟨w.heap.size + 1, 0, none⟩ (.int .i64 x0)).setCell ⟨w.heap.size + 1, 1, none⟩ (.int .i64 rank)).setCell ⟨w.heap.size + 1, 2, none⟩ (.int .i64 x2)) by rw [HL2.out, HN2.out, HM.out]; exact HPP.out rank)
                  clear HPP HM
                  go_wp2_with fail
                  go_region
                  clear c0 c1 c2 b0 b1 b2 f0 f1 f2
                  go_wp2
                  go_roundw
                  case rel => exact ⟨k + 1, m, _, by omega, by go_num, rfl, hide (D.out.drewN 1)⟩
                  case measure => simp [intOf]; omega
                · have HM := hide (show min rank x1 = x1 by omega)
                  have D := hide (show PR w (lowT x0 (ts.take (k + 1))) (nextT x0 rank ts (k + 1)) m (.slice A8 m c8) (((W9.setCell ⟨w.heap.size + 1, 0, none⟩ (.int .i64 x0)).setCell ⟨w.heap.size + 1, 1, none⟩ (.int .i64 x1)).setCell ⟨w.heap.size + 1, 2, none⟩ (.int .i64 x2)) by rw [HL2.out, HN2.out, HM.out]; exact HPP.out x1)
                  clear HPP HM
                  go_wp2_with fail
                  go_region
                  clear c0 c1 c2 b0 b1 b2 f0 f1 f2
                  go_wp2
                  go_roundw
                  case rel => exact ⟨k + 1, m, _, by omega, by go_num, rfl, hide (D.out.drewN 1)⟩
                  case measure => simp [intOf]; omega
              · have HN2 := hide (show nextT id rank ts (k + 1) = nextT id rank ts k by rw [HNS.out, if_neg hxe])
                have g1 : (x0 == id) = false := by simpa using hxe
                have D := hide (show PR w (lowT id (ts.take (k + 1))) (nextT id rank ts (k + 1)) m (.slice A8 m c8) W9 by rw [HL2.out, HN2.out]; exact HP.out)
                clear HLS HNS hxe
                go_wp2
                go_roundw
                case rel => exact ⟨k + 1, m, _, by omega, by go_num, rfl, D⟩
                case measure => simp [intOf]; omega
          · obtain rfl : k = n := by omega
            rw [show ts.take k = ts from by rw [← hl.out, List.take_length]] at HP hml
            have hmm : m ≤ 10 := by
              rw [← hml.out]
              have h3 : (lowT id ts).length ≤ ts.length := List.length_filter_le _ _
              have := hl.out
              omega
            have HX := hide (show pushL id rank ts = lowT id ts ++ nextT id rank ts k :: highT id ts by have h := HSP.out; rw [hl.out] at h; exact h)
            obtain ⟨⟨y0, y1, y2⟩, hnx⟩ : ∃ t, nextT id rank ts k = t := ⟨_, rfl⟩
            rw [hnx] at HP HX
            clear hnx HSP
            obtain ⟨b0, _⟩ := HP.out.box.cell 0 (by omega)
            obtain ⟨b1, _⟩ := HP.out.box.cell 1 (by omega)
            obtain ⟨b2, _⟩ := HP.out.box.cell 2 (by omega)
            rw [Nat.zero_add] at b0 b1 b2
            change _ = some (Value.int .i64 y0) at b0
            change _ = some (Value.int .i64 y1) at b1
            change _ = some (Value.int .i64 y2) at b2
            go_wp2_with (at_builtin; refine wpList_push rfl (.tmp 72) (.tmp 74) 25 39 3 24 i0 _ rfl Try.underlying25 hi hz0 hz1 hz2 rfl (by omega) (by omega) W9 w.heap.size (.slice A8 m c8) m _ rfl HP.out.own [y0, y1, y2] 1 1 rfl rfl (by omega) (by omega) ?_; intro v1 w1' ho1 hb1' hg1 hv1; have HP2 := hide (HP.out.push (u := ⟨y0, y1, y2⟩) ho1 hb1' hg1 hv1); clear ho1 hb1' hg1 hv1)
            clear HP b0 b1 b2 hml hsz
            have HP3 := hide (show PR w (lowT id ts ++ [⟨y0, y1, y2⟩] ++ highT id (ts.take 0)) ⟨y0, y1, y2⟩ (m + 1) v1 w1' by rw [show highT id (ts.take 0) = [] from rfl, List.append_nil]; exact HP2.out)
            clear HP2
            go_loopw [8, 11] (fun s8 s11 wr => ∃ (j m : Nat) (W9 : World), j ≤ k ∧ s11 = .int .i64 j ∧ W9 = wr ∧ Hid (PR w (lowT id ts ++ [⟨y0, y1, y2⟩] ++ highT id (ts.take j)) ⟨y0, y1, y2⟩ m s8 W9)) (fun _ s11 _ => k - (intOf s11).toNat)
            case atStart => exact ⟨0, m + 1, _, Nat.zero_le _, rfl, rfl, HP3⟩
            case round =>
              clear HP3
              obtain ⟨j, m, W9, hj, rfl, rfl, HP⟩ := hrel
              obtain ⟨A8, c8, e8, h81, h82, hrow⟩ := HP.out.own.form
              subst e8
              have hsz := HP.out.size
              have hmm : m ≤ 21 := by
                rw [← HP.out.len]
                have h3 : (lowT id ts).length ≤ ts.length := List.length_filter_le _ _
                have h4 : (highT id (ts.take j)).length ≤ (ts.take j).length := List.length_filter_le _ _
                rw [List.length_take] at h4
                have := hl.out
                simp only [List.length_append, List.length_singleton]
                omega
              by_cases hlt2 : j < k
              · obtain ⟨b, off, rfl, hbB, hcell⟩ := (HA.out _ HP.out.below).2.2 (by omega)
                have c0 := hcell (j * 3) (by omega)
                have c1 := hcell (j * 3 + 1) (by omega)
                have c2 := hcell (j * 3 + 2) (by omega)
                obtain ⟨q0, q1, q2⟩ := flat_at ts j
                rw [q0] at c0; rw [q1] at c1; rw [q2] at c2
                rw [← Nat.add_assoc] at c1 c2
                clear q0 q1 q2 hcell hrow
                have HHS := hide (highT_take_succ (id := id) (ts := ts) (k := j) (by rw [hl.out]; exact hlt2))
                obtain ⟨⟨x0, x1, x2⟩, ht⟩ : ∃ t, tk ts j = t := ⟨_, rfl⟩
                rw [ht] at c0 c1 c2 HHS
                clear ht
                change _ = some (Value.int .i64 x0) at c0
                change _ = some (Value.int .i64 x1) at c1
                change _ = some (Value.int .i64 x2) at c2
                have k1 : (j : Int) < (k : Int) := by omega
                by_cases hx : id < x0
                · have HH2 := hide (show highT id (ts.take (j + 1)) = highT id (ts.take j) ++ [⟨x0, x1, x2⟩] by rw [HHS.out, if_pos hx])
                  clear HHS
                  go_wp2_with (at_builtin; refine wpList_push rfl (.tmp 89) (.tmp 94) 25 39 3 24 i0 _ rfl Try.underlying25 hi hz0 hz1 hz2 rfl (by omega) (by omega) W9 w.heap.size (.slice A8 m c8) m _ rfl HP.out.own [x0, x1, x2] 1 1 rfl rfl (by omega) (by omega) ?_; intro v2 w2' ho2 hb2' hg2 hv2; have D := hide (show PR w (lowT id ts ++ [⟨y0, y1, y2⟩] ++ highT id (ts.take (j + 1))) ⟨y0, y1, y2⟩ (m + 1) v2 w2' by rw [HH2.out, ← List.append_assoc]; exact HP.out.push (u := ⟨x0, x1, x2⟩) ho2 hb2' hg2 hv2); clear ho2 hb2' hg2 hv2)
                  go_roundw
                  case rel => exact ⟨j + 1, m + 1, _, by omega, by go_num, rfl, D⟩
                  case measure => simp [intOf]; omega
                · have D := hide (show PR w (lowT id ts ++ [⟨y0, y1, y2⟩] ++ highT id (ts.take (j + 1))) ⟨y0, y1, y2⟩ m (.slice A8 m c8) W9 by rw [HHS.out, if_neg hx, List.append_nil]; exact HP.out)
                  clear HHS
                  go_wp2
                  go_roundw
                  case rel => exact ⟨j + 1, m, _, by omega, by go_num, rfl, D⟩
                  case measure => simp [intOf]; omega
              · obtain rfl : j = k := by omega
                rw [show ts.take j = ts from by rw [← hl.out, List.take_length], show lowT id ts ++ [⟨y0, y1, y2⟩] ++ highT id ts = pushL id rank ts by rw [HX.out]; simp] at HP
                have HROW := hide (show Row 39 W9 w.heap.size W9.heap.size A8 (m * 3) (flat (pushL id rank ts)) from by
                  obtain ⟨A', c', e, _, _, hr⟩ := HP.out.own.form
                  injection e with e1 e2 e3
                  subst e1
                  exact hr)
                have HOW := hide HP.out.own
                have HBW := hide HP.out.below
                have HLN := hide HP.out.len
                clear hrow HP HX
                have HV := hide (specValid0_any W9.heap.size A8 m c8 (pushL id rank ts) W9 HROW.out.ints (Nat.le_refl _) (by omega))
                by_cases hlen : (pushL id rank ts).length ≤ 10
                · have hq : validT (pushL id rank ts) = true := by rw [HPV.out]; simpa using hlen
                  have hok := hide (show pushOk ts id rank = true by rw [HD2.out]; simpa using hlen)
                  rw [hq] at HV
                  clear hq hlen
                  go_wp2_with (go_at_call 21; refine HV.out.mono ?_; rintro e w5 ⟨rfl, hb⟩; have D := hide (show PushR ts id rank w (.returned (.tuple #[.slice A8 m c8, .bool true])) w5 from ⟨A8, m, c8, by rw [hok.out], by rw [pushS, if_pos hok.out]; exact HOW.out.keep hb, HBW.out.trans (hb.mono (by omega))⟩); clear hb)
                  go_ret2
                  exact D.out
                · have hq : validT (pushL id rank ts) = false := by rw [HPV.out]; simpa using hlen
                  have hok := hide (show pushOk ts id rank = false by rw [HD2.out]; simpa using hlen)
                  rw [hq] at HV
                  clear hq hlen
                  go_wp2_with (go_at_call 21; refine HV.out.mono ?_; rintro e w5 ⟨rfl, hb⟩; have D := hide (HBW.out.trans (hb.mono (by omega))); clear hb)
                  go_ret2
                  exact push_no hok.out D.out
end Go.Proofs.Ytjmkpegomdgcoaa
