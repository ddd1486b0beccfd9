/- slices.Insert at a slice of tasks of the call's own: what it holds. Conditions: none. -/
import Derived.Test.YtjmkpegomdgcoaaTaskI
import Derived.Lib.SmallJoins
namespace Go.Proofs.Ytjmkpegomdgcoaa
open Go.RowKit Go.Lib Go.Joins
set_option linter.unusedVariables false
set_option linter.unusedSimpArgs false
def overs : Array Value → Nat → List Value → Array Value
  | cur, _, [] => cur
  | cur, o, v :: r => overs (cur.setIfInBounds o v) (o + 1) r
theorem heap_overs {g : Nat} {e : TypeId} {fz : Nat × Nat} : ∀ (vs : List Value) (o : Nat) (cur : Array Value) (w : World), w.heap[g]? = some (.cells cur e fz) → (w.setCells g o vs).heap[g]? = some (.cells (overs cur o vs) e fz)
  | [], _, _, _, h => h
  | v :: r, o, cur, w, h => heap_overs r (o + 1) _ _ (block_setCell h v)
theorem size_overs : ∀ (vs : List Value) (o : Nat) (cur : Array Value), (overs cur o vs).size = cur.size
  | [], _, _ => rfl
  | v :: r, o, cur => by rw [overs, size_overs r]; simp
theorem overs_toList : ∀ (vs : List Value) (o : Nat) (cur : Array Value), o + vs.length ≤ cur.size → (overs cur o vs).toList = cur.toList.take o ++ (vs ++ cur.toList.drop (o + vs.length))
  | [], o, cur, _ => by simp [overs]
  | v :: r, o, cur, h => by
    have hl : o < cur.toList.length := by simp at h ⊢; omega
    rw [overs, overs_toList r (o + 1) _ (by simp at h ⊢; omega)]
    rw [Array.toList_setIfInBounds]
    have h1 : (cur.toList.set o v).take (o + 1) = cur.toList.take o ++ [v] := by
      rw [List.take_succ_eq_append_getElem (by simpa using hl), List.take_set_of_le (Nat.le_refl _), List.getElem_set_self]
    have h2 : (cur.toList.set o v).drop (o + 1 + r.length) = cur.toList.drop (o + (v :: r).length) := by
      rw [List.drop_set_of_lt (by omega)]
      congr 1
      simp; omega
    rw [h1, h2]
    simp
theorem grown_setCells {a : World} {g : Nat} : ∀ (vs : List Value) (o : Nat) (w : World), a.grownBy w (some g) → a.grownBy (w.setCells g o vs) (some g)
  | [], _, _, h => h
  | v :: r, o, w, h => grown_setCells r (o + 1) _ (only_setCell h (p := ⟨g, o, none⟩) (.inl rfl) v)
theorem two_overs_shift {cur : Array Value} {p : Nat} {x y : List Value} (h : p + x.length + y.length ≤ cur.size) :
    (overs (overs cur (p + x.length) y) p x).toList.take (p + x.length + y.length) = cur.toList.take p ++ (x ++ y) := by
  have hl : cur.toList.length = cur.size := by simp
  rw [overs_toList x p _ (by rw [size_overs]; omega), overs_toList y _ _ (by omega)]
  have h1 : (cur.toList.take (p + x.length) ++ (y ++ cur.toList.drop (p + x.length + y.length))).take p = cur.toList.take p := by
    rw [List.take_append_of_le_length (by rw [List.length_take]; omega), List.take_take]
    congr 1; omega
  have h2 : (cur.toList.take (p + x.length) ++ (y ++ cur.toList.drop (p + x.length + y.length))).drop (p + x.length) = y ++ cur.toList.drop (p + x.length + y.length) :=
    List.drop_left' (by rw [List.length_take]; omega)
  rw [h1, h2, ← List.append_assoc x, ← List.append_assoc]
  exact List.take_left' (by simp only [List.length_append, List.length_take]; omega)
theorem two_overs_grow {cur : Array Value} {p : Nat} {x y : List Value} (h : p + x.length + y.length ≤ cur.size) :
    (overs (overs cur p x) (p + x.length) y).toList.take (p + x.length + y.length) = cur.toList.take p ++ (x ++ y) := by
  have hl : cur.toList.length = cur.size := by simp
  rw [overs_toList y _ _ (by rw [size_overs]; omega), overs_toList x p _ (by omega)]
  have h1 : (cur.toList.take p ++ (x ++ cur.toList.drop (p + x.length))).take (p + x.length) = cur.toList.take p ++ x := by
    rw [← List.append_assoc]
    exact List.take_left' (by simp only [List.length_append, List.length_take]; omega)
  rw [h1, ← List.append_assoc, List.append_assoc (cur.toList.take p) x y]
  exact List.take_left' (by simp only [List.length_append, List.length_take]; omega)
theorem own_of_heap {E : TypeId} {k base g n cap : Nat} {w : World} {cur : Array Value} {xs : List Int} (hl : xs.length = n * k) (hb : base ≤ g) (hg : w.heap[g]? = some (.cells cur E (0, 0))) (hn : n ≤ cap) (hc : cap ≤ 9223372036854775807)
    (hs : cur.size = cap * k) (ht : cur.toList.take (n * k) = iv xs) : Own E k w base (.slice (some ⟨g, 0, none⟩) n cap) n xs :=
  ⟨by rw [iv_length, hl], .inr ⟨g, cap, cur, rfl, hb, hg, hn, hc, hs, ht⟩⟩
def InsR (base n : Nat) (ys : List Int) (w : World) (e : Ending) (w' : World) : Prop :=
  ∃ (A : Option Addr) (c : Nat), e = .returned (.slice A n c) ∧ Own 39 3 w' base (.slice A n c) n ys ∧ Below base w w'
set_option maxHeartbeats 2000000 in
theorem insertEnd_any (base : Nat) (A : Option Addr) (n c vb : Nat) (xs : List Int) (x y z : Int) (w : World) (ho : Own 39 3 w base (.slice A n c) n xs) (hbase : base ≤ w.heap.size) (hn : n ≤ 1000)
    (hvb : w.heap[vb]? = some (.cells #[.int .i64 x, .int .i64 y, .int .i64 z] 39 (0, 0))) :
    Calls Try.prog 34 #[.slice A n c, .int .i64 n, .slice (some ⟨vb, 0, none⟩) 1 1] w (InsR base (n + 1) (xs ++ [x, y, z]) w) := by
  obtain ⟨i0, hi, hz0, hz1, hz2⟩ := info_parts Task_info
  have hlt : vb < w.heap.size := (Array.getElem?_eq_some_iff.1 hvb).1
  have HR : Reads w w.heap.size 3 (some ⟨vb, 0, none⟩) 1 (iv [x, y, z]) := ⟨rfl, fun _ => ⟨_, rfl, hlt, fun j u hu => by
    rw [Addr.add_lit, Nat.zero_add, cell_of_block hvb, ← hu]
    rcases j with _ | _ | _ | j <;> rfl⟩⟩
  have HO := hide ho
  have HRh := hide HR
  obtain ⟨A', c', e1, hc1, hc2, _⟩ := ho.form
  injection e1 with e1 e2 e3
  subst e1 e3
  clear ho HR hvb
  cases A with
  | none =>
    go_enter Try.func34, Try.ntmps34
    go_wp2_with (at_builtin; refine wpList_join rfl (.tmp 23) (.tmp 24) 25 39 3 24 i0 _ rfl Try.underlying25 hi hz0 hz1 hz2 rfl (by omega) (by omega) w base _ n xs rfl HO.out w.heap.size (some ⟨vb, 0, none⟩) [x, y, z] 1 1 rfl HRh.out (by omega) hbase ?_; intro v1 w1 ho1 hb1 hg1 hv1; have D := hide (show InsR base (n + 1) (xs ++ [x, y, z]) w (.returned v1) w1 from by obtain ⟨A', c', e, _⟩ := ho1.form; exact ⟨A', c', by rw [e], by rw [← e]; exact ho1, hb1⟩); clear ho1 hb1 hg1 hv1)
    go_ret
    exact D.out
  | some ad =>
    go_enter Try.func34, Try.ntmps34
    go_wp2_with (at_builtin; refine wpList_join rfl (.tmp 23) (.tmp 24) 25 39 3 24 i0 _ rfl Try.underlying25 hi hz0 hz1 hz2 rfl (by omega) (by omega) w base _ n xs rfl HO.out w.heap.size (some ⟨vb, 0, none⟩) [x, y, z] 1 1 rfl HRh.out (by omega) hbase ?_; intro v1 w1 ho1 hb1 hg1 hv1; have D := hide (show InsR base (n + 1) (xs ++ [x, y, z]) w (.returned v1) w1 from by obtain ⟨A', c', e, _⟩ := ho1.form; exact ⟨A', c', by rw [e], by rw [← e]; exact ho1, hb1⟩); clear ho1 hb1 hg1 hv1)
    all_goals (go_ret; exact D.out)
theorem insert_any (base : Nat) (A : Option Addr) (n c i vb : Nat) (xs : List Int) (x y z : Int) (w : World) (ho : Own 39 3 w base (.slice A n c) n xs) (hbase : base ≤ w.heap.size) (hn : n ≤ 1000) (hi : i ≤ n)
    (hvb : w.heap[vb]? = some (.cells #[.int .i64 x, .int .i64 y, .int .i64 z] 39 (0, 0))) (hne : ∀ g, (Value.slice A n c).ownBlock = some g → g ≠ vb) :
    Calls Try.prog 34 #[.slice A n c, .int .i64 i, .slice (some ⟨vb, 0, none⟩) 1 1] w (InsR base (n + 1) (xs.take (i * 3) ++ ([x, y, z] ++ xs.drop (i * 3))) w) := by
  have hlen := ho.len
  by_cases hin : i = n
  · subst hin
    rw [List.take_of_length_le (by omega), List.drop_of_length_le (by omega), List.append_nil]
    exact insertEnd_any base A i c vb xs x y z w ho hbase hn hvb
  have hlt : i < n := by omega
  rcases ho.2 with ⟨e, h0⟩ | ⟨g, cap, cur, hv, hbg, hg, hnc, hcap, hsz, htake⟩
  · omega
  injection hv with e1 e2 e3
  subst e1 e3
  have hcap' : c ≤ 9223372036854775807 := hcap
  have hgn : g ≠ vb := hne g rfl
  have hil : (iv xs).length = n * 3 := by rw [iv_length, hlen]
  have hcs : ∀ j v, (iv xs)[j]? = some v → w.cell? ⟨g, 0 + j, none⟩ = some v := fun j v h => by
    rw [Nat.zero_add, cell_of_block hg, ← h, ← htake, List.getElem?_take, if_pos (by obtain ⟨q, _⟩ := iv_get' h; omega), Array.getElem?_toList]
  have hvs : ∀ j v, (iv [x, y, z])[j]? = some v → w.cell? ⟨vb, 0 + j, none⟩ = some v := fun j v h => by
    rw [Nat.zero_add, cell_of_block hvb, ← h]
    rcases j with _ | _ | _ | j <;> rfl
  have h3 : (iv [x, y, z]).length = 3 := rfl
  have hrl : (xs.take (i * 3) ++ ([x, y, z] ++ xs.drop (i * 3))).length = (n + 1) * 3 := by
    simp only [List.length_append, List.length_take, List.length_drop, List.length_cons, List.length_nil]; omega
  have hiv : iv (xs.take (i * 3) ++ ([x, y, z] ++ xs.drop (i * 3))) = (iv xs).take (i * 3) ++ (iv [x, y, z] ++ (iv xs).drop (i * 3)) := by
    rw [iv_append, iv_append]; simp [iv, List.map_take, List.map_drop]
  have hdl : ((iv xs).drop (i * 3)).length = n * 3 - i * 3 := by rw [List.length_drop, hil]
  by_cases hroom : n + 1 ≤ c
  · refine (insertShift_any g 0 n c i vb 0 1 1 (iv xs) (iv [x, y, z]) w hlt (by omega) hroom hcap' (fun e => hgn e.symm) hil rfl hcs
      (fun j hj => by rw [Nat.zero_add, cell_of_block hg, Array.getElem?_eq_getElem (by omega)]; rfl) (fun j _ => unfrozen_of_block hg _) hvs (iv_one _) (iv_one _)
      39 39 3 cur.size (by simp [World.shape?, hvb]) (by simp [World.shape?, hg]) (by omega) (unfrozen_of_block hvb _) (unfrozen_of_block hvb _)).mono ?_
    rintro e w' ⟨rfl, rfl⟩
    have g0 : w.grownBy w.drew (some g) := only_drew (only_refl w _)
    have g1 := grown_setCells (iv [x, y, z]) (0 + i * 3) _ (grown_setCells ((iv xs).drop (i * 3)) (0 + (i + 1) * 3) _ g0)
    refine ⟨_, _, rfl, own_of_heap hrl hbg (heap_overs _ _ _ _ (heap_overs _ _ _ w.drew hg)) hroom hcap' (by rw [size_overs, size_overs]; exact hsz) ?_, ho.below hbase g1⟩
    have := two_overs_shift (cur := cur) (p := i * 3) (x := iv [x, y, z]) (y := (iv xs).drop (i * 3)) (by rw [h3, hdl]; omega)
    rw [h3, hdl] at this
    rw [hiv, Nat.zero_add, Nat.zero_add, show (i + 1) * 3 = i * 3 + 3 by omega, show (n + 1) * 3 = i * 3 + 3 + (n * 3 - i * 3) by omega, this, ← htake, List.take_take, show min (i * 3) (n * 3) = i * 3 by omega]
  · refine (insertGrow_any g 0 n c i vb 0 1 1 (iv xs) (iv [x, y, z]) w hlt (by omega) hnc (by omega) (by omega) hil rfl hcs hvs (iv_one _) (iv_one _)).mono ?_
    rintro e w' ⟨G, ROW, hG1, hG2, hR1, hR2, rfl, rfl⟩
    have g0 : w.grownBy (w.alloc (.cells ROW 39)).drew (some w.heap.size) := only_drew (only_alloc (only_refl w _) _)
    have g1 := grown_setCells ((iv xs).drop (i * 3)) ((i + 1) * 3) _ (only_drew (grown_setCells (iv [x, y, z]) (i * 3) _ g0))
    have hN : (w.alloc (.cells ROW 39)).drew.heap[w.heap.size]? = some (.cells ROW 39 (0, 0)) := heap_alloc_new w _
    refine ⟨_, _, rfl, own_of_heap hrl hbase (heap_overs _ _ _ _ (show (((w.alloc (.cells ROW 39)).drew.setCells w.heap.size (i * 3) (iv [x, y, z])).drew).heap[w.heap.size]? = _ from heap_overs _ _ _ _ hN)) hG1 hG2 (by rw [size_overs, size_overs]; exact hR1) ?_, ⟨g1.os, g1.tape, g1.output, g1.size, fun k hk => g1.block k (by omega) (fun e => by injection e with e; omega)⟩⟩
    have := two_overs_grow (cur := ROW) (p := i * 3) (x := iv [x, y, z]) (y := (iv xs).drop (i * 3)) (by rw [h3, hdl]; omega)
    rw [h3, hdl] at this
    rw [hiv, show (i + 1) * 3 = i * 3 + 3 by omega, show (n + 1) * 3 = i * 3 + 3 + (n * 3 - i * 3) by omega, this, hR2]
end Go.Proofs.Ytjmkpegomdgcoaa
