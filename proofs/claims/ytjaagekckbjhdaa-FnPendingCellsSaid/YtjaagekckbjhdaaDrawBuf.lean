/- Drawn buffers: two lists and a version. Conditions: none. -/
import Derived.Test.YtjaagekckbjhdaaSpoil
import Derived.Test.YtjaagekckbjhdaaBuf
import Derived.Deep.DeepCutAuto
namespace Go.Proofs.Ytjaagekckbjhdaa
open Go.RowKit
set_option linter.unusedVariables false

/-- buffers that are being drawn, opened: the box gb holds the two lists of the call's own -/
structure AnyOp (W : World) (R p mf mb gb : Nat) (vf vb : Value) (ver : Int) (xs ys : List Int) (wr : World) : Prop where
  box : wr.heap[gb]? = some (.cells #[vf, vb, .int .i64 ver] 27 (0, 0))
  res : wr.heap[W.heap.size]? = some (.cells #[.slice none 0 0, .slice none 0 0, .int .i64 0] 27 (0, 0))
  fr : Own 3 1 wr (W.heap.size + 1) vf mf xs
  bk : Own 3 1 wr (W.heap.size + 1) vb mb ys
  fv : ∃ g, vf.ownBlock = some g
  bv : ∃ g, vb.ownBlock = some g
  ne : vf.ownBlock ≠ vb.ownBlock
  nf : vf.ownBlock ≠ some gb
  nb : vb.ownBlock ≠ some gb
  lo : W.heap.size + 1 ≤ gb
  ver0 : -1 ≤ ver
  ver1 : ver ≤ 1001
  rd : Rd wr R p
  gr : W.grownBy wr (some R)
  rl : R < W.heap.size
theorem AnyOp.lt {W wr : World} {R p mf mb gb : Nat} {vf vb : Value} {ver : Int} {xs ys : List Int} (h : AnyOp W R p mf mb gb vf vb ver xs ys wr) : gb < wr.heap.size := by
  have hb := h.box
  rcases Nat.lt_or_ge gb wr.heap.size with h6 | h6
  · exact h6
  · rw [Array.getElem?_eq_none h6] at hb; cases hb
theorem AnyOp.step {W wr wr' : World} {R p p' mf mb gb : Nat} {vf vb : Value} {ver : Int} {xs ys : List Int} (h : AnyOp W R p mf mb gb vf vb ver xs ys wr) (hr : Rd wr' R p') (hg : wr.grownBy wr' (some R)) : AnyOp W R p' mf mb gb vf vb ver xs ys wr' := by
  have h1 := h.gr.size
  have h2 := h.rl
  have h3 := h.lo
  exact ⟨(hg.block gb h.lt (fun e => by injection e with e; omega)).trans h.box, (hg.block W.heap.size (by have := h.lt; omega) (fun e => by injection e with e; omega)).trans h.res, h.fr.farR hg (by omega), h.bk.farR hg (by omega), h.fv, h.bv, h.ne, h.nf, h.nb, h.lo, h.ver0, h.ver1, hr, only_trans h.gr hg, h.rl⟩
theorem set_own {E : TypeId} {k : Nat} {w : World} {base : Nat} {v : Value} {n : Nat} {xs : List Int} (h : Own E k w base v n xs) {g o : Nat} (u : Value) (hne : v.ownBlock ≠ some g) : Own E k (w.setCell ⟨g, o, none⟩ u) base v n xs :=
  h.far (only_set w g o u) (.inr hne)
theorem AnyOp.pushF {W wr w' : World} {R p mf mb gb : Nat} {vf vb v' : Value} {ver : Int} {xs ys zs : List Int} (h : AnyOp W R p mf mb gb vf vb ver xs ys wr)
    (ho : Own 3 1 w' (W.heap.size + 1) v' (mf + 1) zs) (hg : wr.grownBy w' vf.ownBlock) (hv : v'.ownBlock = vf.ownBlock ∨ v'.ownBlock = some (wr.heap.size + 1)) :
    AnyOp W R p (mf + 1) mb gb v' vb ver zs ys (w'.setCell ⟨gb, 0, none⟩ v') := by
  obtain ⟨gf, hf⟩ := h.fv
  obtain ⟨gk, hk⟩ := h.bv
  have hlt := h.lt
  have hl1 := h.fr.lt gf hf
  have hl2 := h.bk.lt gk hk
  have hlo := h.lo
  have hrl := h.rl
  have hne := h.ne
  have hnf := h.nf
  have hnb := h.nb
  rw [hf, hk] at hne
  rw [hf] at hnf
  rw [hk] at hnb
  have hbox : w'.heap[gb]? = some (.cells #[vf, vb, .int .i64 ver] 27 (0, 0)) := (hg.block gb hlt (fun e => hnf (by rw [← hf, ← e]))).trans h.box
  have hres : w'.heap[W.heap.size]? = some (.cells #[.slice none 0 0, .slice none 0 0, .int .i64 0] 27 (0, 0)) := (hg.block W.heap.size (by omega) (fun e => by rw [hf] at e; injection e with e; omega)).trans h.res
  have hv1 : ∃ g', v'.ownBlock = some g' ∧ g' ≠ gk ∧ g' ≠ gb := by
    rcases hv with e | e
    · exact ⟨gf, e.trans hf, fun e => hne (by rw [e]), fun e => hnf (by rw [e])⟩
    · exact ⟨wr.heap.size + 1, e, by omega, by omega⟩
  obtain ⟨g', hg', hgk, hgb⟩ := hv1
  refine ⟨?_, ?_, set_own ho _ (by rw [hg']; intro e; injection e with e; exact hgb e), set_own (h.bk.far hg (.inr (by rw [hf, hk]; exact fun e => hne e.symm))) _ (by rw [hk]; exact hnb), ⟨g', hg'⟩, ⟨gk, hk⟩, by rw [hg', hk]; intro e; injection e with e; exact hgk e, by rw [hg']; intro e; injection e with e; exact hgb e, by rw [hk]; exact hnb, hlo, h.ver0, h.ver1, ?_, ?_, hrl⟩
  · simp [World.setCell, Array.getElem?_modify, hbox]
  · rw [Below.heap_setCell _ _ _ _ (by show W.heap.size ≠ gb; omega)]; exact hres
  · exact (h.rd.grown hg (fun k e => by rw [hf] at e; injection e with e; omega)).setCell (by show R < gb; omega) _
  · exact only_setCell (only_fresh h.gr hg (fun k e => by rw [hf] at e; injection e with e; omega)) (.inr (by show W.heap.size ≤ gb; omega)) _
theorem AnyOp.pushB {W wr w' : World} {R p mf mb gb : Nat} {vf vb v' : Value} {ver : Int} {xs ys zs : List Int} (h : AnyOp W R p mf mb gb vf vb ver xs ys wr)
    (ho : Own 3 1 w' (W.heap.size + 1) v' (mb + 1) zs) (hg : wr.grownBy w' vb.ownBlock) (hv : v'.ownBlock = vb.ownBlock ∨ v'.ownBlock = some (wr.heap.size + 1)) :
    AnyOp W R p mf (mb + 1) gb vf v' ver xs zs (w'.setCell ⟨gb, 1, none⟩ v') := by
  obtain ⟨gf, hf⟩ := h.fv
  obtain ⟨gk, hk⟩ := h.bv
  have hlt := h.lt
  have hl1 := h.fr.lt gf hf
  have hl2 := h.bk.lt gk hk
  have hlo := h.lo
  have hrl := h.rl
  have hne := h.ne
  have hnf := h.nf
  have hnb := h.nb
  rw [hf, hk] at hne
  rw [hf] at hnf
  rw [hk] at hnb
  have hbox : w'.heap[gb]? = some (.cells #[vf, vb, .int .i64 ver] 27 (0, 0)) := (hg.block gb hlt (fun e => hnb (by rw [← hk, ← e]))).trans h.box
  have hres : w'.heap[W.heap.size]? = some (.cells #[.slice none 0 0, .slice none 0 0, .int .i64 0] 27 (0, 0)) := (hg.block W.heap.size (by omega) (fun e => by rw [hk] at e; injection e with e; omega)).trans h.res
  have hv1 : ∃ g', v'.ownBlock = some g' ∧ g' ≠ gf ∧ g' ≠ gb := by
    rcases hv with e | e
    · exact ⟨gk, e.trans hk, fun e => hne (by rw [e]), fun e => hnb (by rw [e])⟩
    · exact ⟨wr.heap.size + 1, e, by omega, by omega⟩
  obtain ⟨g', hg', hgk, hgb⟩ := hv1
  refine ⟨?_, ?_, set_own (h.fr.far hg (.inr (by rw [hf, hk]; exact hne))) _ (by rw [hf]; exact hnf), set_own ho _ (by rw [hg']; intro e; injection e with e; exact hgb e), ⟨gf, hf⟩, ⟨g', hg'⟩, by rw [hg', hf]; intro e; injection e with e; exact hgk e.symm, by rw [hf]; exact hnf, by rw [hg']; intro e; injection e with e; exact hgb e, hlo, h.ver0, h.ver1, ?_, ?_, hrl⟩
  · simp [World.setCell, Array.getElem?_modify, hbox]
  · rw [Below.heap_setCell _ _ _ _ (by show W.heap.size ≠ gb; omega)]; exact hres
  · exact (h.rd.grown hg (fun k e => by rw [hk] at e; injection e with e; omega)).setCell (by show R < gb; omega) _
  · exact only_setCell (only_fresh h.gr hg (fun k e => by rw [hk] at e; injection e with e; omega)) (.inr (by show W.heap.size ≤ gb; omega)) _
/-- .. closed -/
def AnyRel (W : World) (R p mf mb gb : Nat) (wr : World) : Prop := ∃ vf vb ver xs ys, AnyOp W R p mf mb gb vf vb ver xs ys wr
theorem AnyOp.cells {W wr : World} {R p mf mb gb : Nat} {vf vb : Value} {ver : Int} {xs ys : List Int} (h : AnyOp W R p mf mb gb vf vb ver xs ys wr) :
    wr.cell? ⟨gb, 0, none⟩ = some vf ∧ wr.cell? ⟨gb, 1, none⟩ = some vb ∧ wr.cell? ⟨gb, 2, none⟩ = some (.int .i64 ver) ∧ wr.frozen? ⟨gb, 0, none⟩ = false ∧ wr.frozen? ⟨gb, 1, none⟩ = false ∧ wr.frozen? ⟨gb, 2, none⟩ = false := by
  have hb := h.box
  refine ⟨?_, ?_, ?_, ?_, ?_, ?_⟩ <;> simp [World.cell?, World.frozen?, hb]

theorem AnyOp.cellsOf {w' : World} {gb : Nat} {vf vb : Value} {ver : Int} (hb : w'.heap[gb]? = some (.cells #[vf, vb, .int .i64 ver] 27 (0, 0))) :
    w'.cell? ⟨gb, 0, none⟩ = some vf ∧ w'.cell? ⟨gb, 1, none⟩ = some vb ∧ w'.cell? ⟨gb, 2, none⟩ = some (.int .i64 ver) ∧ w'.frozen? ⟨gb, 0, none⟩ = false ∧ w'.frozen? ⟨gb, 1, none⟩ = false ∧ w'.frozen? ⟨gb, 2, none⟩ = false := by
  refine ⟨?_, ?_, ?_, ?_, ?_, ?_⟩ <;> simp [World.cell?, World.frozen?, hb]
theorem AnyOp.cellsF {W wr w' : World} {R p mf mb gb : Nat} {vf vb : Value} {ver : Int} {xs ys : List Int} (h : AnyOp W R p mf mb gb vf vb ver xs ys wr) (hg : wr.grownBy w' vf.ownBlock) :
    w'.cell? ⟨gb, 0, none⟩ = some vf ∧ w'.cell? ⟨gb, 1, none⟩ = some vb ∧ w'.cell? ⟨gb, 2, none⟩ = some (.int .i64 ver) ∧ w'.frozen? ⟨gb, 0, none⟩ = false ∧ w'.frozen? ⟨gb, 1, none⟩ = false ∧ w'.frozen? ⟨gb, 2, none⟩ = false :=
  AnyOp.cellsOf ((hg.block gb h.lt (fun e => h.nf e.symm)).trans h.box)
theorem AnyOp.cellsB {W wr w' : World} {R p mf mb gb : Nat} {vf vb : Value} {ver : Int} {xs ys : List Int} (h : AnyOp W R p mf mb gb vf vb ver xs ys wr) (hg : wr.grownBy w' vb.ownBlock) :
    w'.cell? ⟨gb, 0, none⟩ = some vf ∧ w'.cell? ⟨gb, 1, none⟩ = some vb ∧ w'.cell? ⟨gb, 2, none⟩ = some (.int .i64 ver) ∧ w'.frozen? ⟨gb, 0, none⟩ = false ∧ w'.frozen? ⟨gb, 1, none⟩ = false ∧ w'.frozen? ⟨gb, 2, none⟩ = false :=
  AnyOp.cellsOf ((hg.block gb h.lt (fun e => h.nb e.symm)).trans h.box)

/-- buffers have been drawn; the reader goes on -/
def DrawnB (R p : Nat) (w : World) (e : Ending) (w' : World) : Prop :=
  ∃ A n c B m d xs ys ver, e = .returned (.agg #[.slice A n c, .slice B m d, .int .i64 ver]) ∧ n ≤ 20 ∧ m ≤ 20 ∧ n ≤ c ∧ c ≤ 9223372036854775807 ∧ m ≤ d ∧ d ≤ 9223372036854775807 ∧ -1 ≤ ver ∧ ver ≤ 1001 ∧
    Row 3 w' w.heap.size w'.heap.size A n xs ∧ Row 3 w' w.heap.size w'.heap.size B m ys ∧ Rd w' R p ∧ w.grownBy w' (some R)
theorem Own.rowI {w : World} {base : Nat} {v : Value} {n : Nat} {xs : List Int} (h : Own 3 1 w base v n xs) : ∃ (A : Option Addr) (c : Nat), v = .slice A n c ∧ n ≤ c ∧ c ≤ 9223372036854775807 ∧ Row 3 w base w.heap.size A n xs := by
  obtain ⟨A, c, e, h1, h2, h3⟩ := h.form
  rw [Nat.mul_one] at h3
  exact ⟨A, c, e, h1, h2, h3⟩
/-- at the end: what lies in the box is copied out -/
theorem drawn_of {W wr w' : World} {R p n c m d : Nat} {A B : Option Addr} {ver : Int} {xs ys : List Int} (hA : Row 3 wr (W.heap.size + 1) wr.heap.size A n xs) (hB : Row 3 wr (W.heap.size + 1) wr.heap.size B m ys)
    (h : Rd wr R p) (hg : W.grownBy wr (some R)) (hR : R < W.heap.size) (k1 : n ≤ 20) (k2 : m ≤ 20) (k3 : n ≤ c) (k4 : c ≤ 9223372036854775807) (k5 : m ≤ d) (k6 : d ≤ 9223372036854775807) (k7 : -1 ≤ ver) (k8 : ver ≤ 1001)
    (ho : Only W.heap.size (W.heap.size + 1) wr w') (hs : w'.heap.size = wr.heap.size) : DrawnB R p W (.returned (.agg #[.slice A n c, .slice B m d, .int .i64 ver])) w' := by
  have hz := hg.size
  refine ⟨A, n, c, B, m, d, xs, ys, ver, rfl, k1, k2, k3, k4, k5, k6, k7, k8, (hA.far ho (.inr (Nat.le_refl _))).mono (by omega) (by omega), (hB.far ho (.inr (Nat.le_refl _))).mono (by omega) (by omega), h.same fun k hk => ho.block k (by omega) (.inl (by omega)), ?_⟩
  exact ⟨ho.os.trans hg.os, ho.tape.trans hg.tape, ho.output.trans hg.output, Nat.le_trans hg.size ho.size, fun i hi hne => (ho.block i (by omega) (.inl hi)).trans (hg.block i hi hne)⟩

/-- buffers drawn, ready to be copied out -/
structure EndB (W : World) (R p gb n c m d : Nat) (A B : Option Addr) (ver : Int) (xs ys : List Int) (wr : World) : Prop where
  box : wr.heap[gb]? = some (.cells #[.slice A n c, .slice B m d, .int .i64 ver] 27 (0, 0))
  res : wr.heap[W.heap.size]? = some (.cells #[.slice none 0 0, .slice none 0 0, .int .i64 0] 27 (0, 0))
  rA : Row 3 wr (W.heap.size + 1) wr.heap.size A n xs
  rB : Row 3 wr (W.heap.size + 1) wr.heap.size B m ys
  kA : n ≤ 20 ∧ n ≤ c ∧ c ≤ 9223372036854775807
  kB : m ≤ 20 ∧ m ≤ d ∧ d ≤ 9223372036854775807
  kv : -1 ≤ ver ∧ ver ≤ 1001
  rd : Rd wr R p
  gr : W.grownBy wr (some R)
  rl : R < W.heap.size
theorem EndB.done {W wr w' : World} {R p gb n c m d : Nat} {A B : Option Addr} {ver : Int} {xs ys : List Int} (h : EndB W R p gb n c m d A B ver xs ys wr) (ho : Only W.heap.size (W.heap.size + 1) wr w') (hs : w'.heap.size = wr.heap.size) :
    DrawnB R p W (.returned (.agg #[.slice A n c, .slice B m d, .int .i64 ver])) w' :=
  drawn_of h.rA h.rB h.rd h.gr h.rl h.kA.1 h.kB.1 h.kA.2.1 h.kA.2.2 h.kB.2.1 h.kB.2.2 h.kv.1 h.kv.2 ho hs
theorem EndB.mono {W wr : World} {R p q gb n c m d : Nat} {A B : Option Addr} {ver : Int} {xs ys : List Int} (h : EndB W R p gb n c m d A B ver xs ys wr) (hq : p ≤ q) : EndB W R q gb n c m d A B ver xs ys wr := { h with rd := h.rd.mono hq }
theorem AnyOp.endB {W wr : World} {R p gb n c m d : Nat} {A B : Option Addr} {ver : Int} {xs ys : List Int} (h : AnyOp W R p n m gb (.slice A n c) (.slice B m d) ver xs ys wr) (k1 : n ≤ 20) (k2 : m ≤ 20) : EndB W R p gb n c m d A B ver xs ys wr := by
  obtain ⟨A', c', e1, a1, a2, a3⟩ := h.fr.rowI
  obtain ⟨B', d', e2, b1, b2, b3⟩ := h.bk.rowI
  injection e1 with e1 e1' e1''
  injection e2 with e2 e2' e2''
  subst e1 e1'' e2 e2''
  exact ⟨h.box, h.res, a3, b3, ⟨k1, a1, a2⟩, ⟨k2, b1, b2⟩, ⟨h.ver0, h.ver1⟩, h.rd, h.gr, h.rl⟩
theorem AnyOp.setVer {W wr : World} {R p mf mb gb : Nat} {vf vb : Value} {ver v : Int} {xs ys : List Int} (h : AnyOp W R p mf mb gb vf vb ver xs ys wr) (h0 : -1 ≤ v) (h1 : v ≤ 1001) : AnyOp W R p mf mb gb vf vb v xs ys (wr.setCell ⟨gb, 2, none⟩ (.int .i64 v)) := by
  have hlo := h.lo
  have hrl := h.rl
  have hbox := h.box
  refine ⟨?_, ?_, set_own h.fr _ h.nf, set_own h.bk _ h.nb, h.fv, h.bv, h.ne, h.nf, h.nb, h.lo, h0, h1, h.rd.setCell (by show R < gb; omega) _, only_setCell h.gr (.inr (by show W.heap.size ≤ gb; omega)) _, hrl⟩
  · simp [World.setCell, Array.getElem?_modify, hbox]
  · rw [Below.heap_setCell _ _ _ _ (by show W.heap.size ≠ gb; omega)]; exact h.res
/-- .. ahead of spoil: the back row has been appended to, and what was appended has not been kept yet -/
theorem AnyOp.midB {W wr w' : World} {R p mf mb gb : Nat} {vf vb : Value} {ver : Int} {xs ys : List Int} (h : AnyOp W R p mf mb gb vf vb ver xs ys wr) (hg : wr.grownBy w' vb.ownBlock) : Rd w' R p := by
  obtain ⟨gk, hk⟩ := h.bv
  have hl2 := h.bk.lt gk hk
  have hrl := h.rl
  exact h.rd.grown hg (fun k e => by rw [hk] at e; injection e with e; omega)
theorem AnyOp.spoiled {W wr w' w4 : World} {R p q n m gb n7 c7 c d : Nat} {A B A7 : Option Addr} {ver : Int} {xs ys zs : List Int} (h : AnyOp W R p n m gb (.slice A n c) (.slice B m d) ver xs ys wr) (hg : wr.grownBy w' (Value.slice B m d).ownBlock)
    (hr4 : Rd w4 R q) (hg4 : w'.grownBy w4 (some R)) (h7 : Row 3 w4 w'.heap.size w4.heap.size A7 n7 zs) (k1 : n ≤ 20) (k7 : n7 ≤ 20 ∧ n7 ≤ c7 ∧ c7 ≤ 9223372036854775807) :
    EndB W R q gb n c n7 c7 A A7 ver xs zs (w4.setCell ⟨gb, 1, none⟩ (.slice A7 n7 c7)) := by
  obtain ⟨gk, hk⟩ := h.bv
  have hl2 := h.bk.lt gk hk
  have hrl := h.rl
  have hlo := h.lo
  have hlt := h.lt
  have hz := hg.size
  have hz4 := hg4.size
  have hnb := h.nb
  rw [hk] at hg hnb
  have hbox : w4.heap[gb]? = some (.cells #[.slice A n c, .slice B m d, .int .i64 ver] 27 (0, 0)) :=
    (hg4.block gb (by omega) (fun e => by injection e with e; omega)).trans ((hg.block gb hlt (fun e => hnb e.symm)).trans h.box)
  have hres : w4.heap[W.heap.size]? = some (.cells #[.slice none 0 0, .slice none 0 0, .int .i64 0] 27 (0, 0)) :=
    (hg4.block W.heap.size (by omega) (fun e => by injection e with e; omega)).trans ((hg.block W.heap.size (by omega) (fun e => by injection e with e; omega)).trans h.res)
  have hf := set_own (g := gb) (o := 1) (((h.fr.far hg (.inr (by rw [← hk]; exact h.ne))).farR hg4 (by omega))) (.slice A7 n7 c7) h.nf
  obtain ⟨A', c', e1, a1, a2, a3⟩ := hf.rowI
  injection e1 with e1 e1' e1''
  subst e1 e1''
  have hgr : W.grownBy w4 (some R) := only_trans (only_fresh h.gr hg (fun k e => by injection e with e; omega)) hg4
  refine ⟨?_, ?_, a3, ((h7.keep fun k h1 h2 h3 => Below.heap_setCell _ _ _ _ (by show k ≠ gb; omega)).mono (by omega) (by simp [World.setCell])), ⟨k1, a1, a2⟩, k7, ⟨h.ver0, h.ver1⟩, hr4.setCell (by show R < gb; omega) _, only_setCell hgr (.inr (by show W.heap.size ≤ gb; omega)) _, hrl⟩
  · simp [World.setCell, Array.getElem?_modify, hbox]
  · rw [Below.heap_setCell _ _ _ _ (by show W.heap.size ≠ gb; omega)]; exact hres
theorem EndB.cells {W wr : World} {R p gb n c m d : Nat} {A B : Option Addr} {ver : Int} {xs ys : List Int} (h : EndB W R p gb n c m d A B ver xs ys wr) :
    wr.cell? ⟨gb, 0, none⟩ = some (.slice A n c) ∧ wr.cell? ⟨gb, 1, none⟩ = some (.slice B m d) ∧ wr.cell? ⟨gb, 2, none⟩ = some (.int .i64 ver) ∧ wr.frozen? ⟨gb, 0, none⟩ = false ∧ wr.frozen? ⟨gb, 1, none⟩ = false ∧ wr.frozen? ⟨gb, 2, none⟩ = false := AnyOp.cellsOf h.box
theorem EndB.cellsR {W wr : World} {R p gb n c m d : Nat} {A B : Option Addr} {ver : Int} {xs ys : List Int} (h : EndB W R p gb n c m d A B ver xs ys wr) :
    wr.cell? ⟨W.heap.size, 0, none⟩ = some (.slice none 0 0) ∧ wr.cell? ⟨W.heap.size, 1, none⟩ = some (.slice none 0 0) ∧ wr.cell? ⟨W.heap.size, 2, none⟩ = some (.int .i64 0) ∧ wr.frozen? ⟨W.heap.size, 0, none⟩ = false ∧ wr.frozen? ⟨W.heap.size, 1, none⟩ = false ∧ wr.frozen? ⟨W.heap.size, 2, none⟩ = false := AnyOp.cellsOf h.res

set_option maxHeartbeats 4000000 in
theorem anyBuffers_any (R p : Nat) (w : World) (h : Rd w R p) (hp : p ≤ 400000) : Calls Try.prog 34 #[.pointer (some ⟨R, 0, none⟩)] w (DrawnB R (p + 100) w) := by
  obtain ⟨i0, hi, hz0, hz1, hz2⟩ := info_parts int_info
  have hR := h.lt
  go_enter Try.func34, Try.ntmps34
  go_wp2_with fail
  refine (one_at R p [0, 1, 5, 999, 1000] _ _ _ (((h.alloc _).alloc _).alloc _) (by omega) (by rfl) (by omega) (by omega) (by simp)).mono ?_
  rintro e W1 ⟨x, hx, rfl, hr1, hg1⟩
  have hx0 : 0 ≤ x ∧ x ≤ 1000 := by simp at hx; omega
  clear hx
  have hzW : w.heap.size + 3 ≤ W1.heap.size := by have := hg1.size; simpa using this
  have bF : W1.heap[w.heap.size + 1]? = some (.cells #[] 3 (0, 0)) := by
    rw [hg1.block (w.heap.size + 1) (by simp) (fun e => by injection e with e; omega), Below.heap_alloc _ _ _ (by simp)]
    have := heap_alloc_new (w.alloc (.cells #[.slice none 0 0, .slice none 0 0, .int .i64 0] 27)) (.cells #[] 3)
    simpa using this
  have bB : W1.heap[w.heap.size + 2]? = some (.cells #[] 3 (0, 0)) := by
    rw [hg1.block (w.heap.size + 2) (by simp) (fun e => by injection e with e; omega)]
    have := heap_alloc_new ((w.alloc (.cells #[.slice none 0 0, .slice none 0 0, .int .i64 0] 27)).alloc (.cells #[] 3)) (.cells #[] 3)
    simpa using this
  have bR : W1.heap[w.heap.size]? = some (.cells #[.slice none 0 0, .slice none 0 0, .int .i64 0] 27 (0, 0)) := by
    rw [hg1.block w.heap.size (by simp; omega) (fun e => by injection e with e; omega), Below.heap_alloc _ _ _ (by simp; omega), Below.heap_alloc _ _ _ (by simp)]
    exact heap_alloc_new w _
  have HA := hide (show AnyOp w R (p + 1) 0 0 W1.heap.size (.slice (some ⟨w.heap.size + 1, 0, none⟩) 0 0) (.slice (some ⟨w.heap.size + 2, 0, none⟩) 0 0) x [] [] (W1.alloc (.cells #[.slice (some ⟨w.heap.size + 1, 0, none⟩) 0 0, .slice (some ⟨w.heap.size + 2, 0, none⟩) 0 0, .int .i64 x] 27)) from
    ⟨heap_alloc_new W1 _, (Below.heap_alloc _ _ _ (by omega)).trans bR, ⟨rfl, .inr ⟨w.heap.size + 1, 0, #[], rfl, Nat.le_refl _, (Below.heap_alloc _ _ _ (by omega)).trans bF, Nat.le_refl _, by unfold maxLen; omega, rfl, rfl⟩⟩, ⟨rfl, .inr ⟨w.heap.size + 2, 0, #[], rfl, by omega, (Below.heap_alloc _ _ _ (by omega)).trans bB, Nat.le_refl _, by unfold maxLen; omega, rfl, rfl⟩⟩,
     ⟨_, rfl⟩, ⟨_, rfl⟩, by simp [Value.ownBlock], by simp [Value.ownBlock]; omega, by simp [Value.ownBlock]; omega, by omega, by omega, by omega, hr1.alloc _, only_alloc (only_trans (only_alloc (only_alloc (only_alloc (only_refl _ _) _) _) _) hg1) _, hR⟩)
  clear bF bB bR
  go_wp2_with fail
  generalize hgb : W1.heap.size = gb at HA
  refine (one_at R (p + 1) [4, 3, 6, 1, 16, 2] _ _ _ (hr1.alloc _) (by omega) (by rfl) (by omega) (by omega) (by simp; omega)).mono ?_
  rintro e W2 ⟨q, hq, rfl, hr2, hg2⟩
  have hq0 : 1 ≤ q ∧ q ≤ 16 := by simp at hq; omega
  clear hq
  have HB := hide (show AnyRel w R (p + 2) 0 0 gb W2 from ⟨_, _, _, _, _, HA.out.step hr2 hg2⟩)
  clear HA hr2 hg2 hr1 hg1 hzW
  go_wp2_with fail
  go_loopw [4] (fun s4 wr => ∃ (k : Int) (m : Nat), 0 ≤ k ∧ k + m ≤ 16 ∧ s4 = .int .i64 k ∧ Hid (AnyRel w R (p + 2 + 3 * m) m m gb wr)) (fun s4 _ => (intOf s4).toNat)
  case atStart => exact ⟨q, 0, by omega, by omega, rfl, HB⟩
  case round =>
    obtain ⟨k, m, hk0, hkm, rfl, A⟩ := hrel
    clear HB
    obtain ⟨vf, vb, ver, xs, ys, HO⟩ := A.out
    clear A
    obtain ⟨Af, cf, hvf, hf1, hf2, rowf⟩ := HO.fr.rowI
    obtain ⟨Ab, cb, hvb, hb1, hb2, rowb⟩ := HO.bk.rowI
    subst hvf hvb
    clear rowf rowb
    obtain ⟨c0, c1, c2, f0, f1, f2⟩ := HO.cells
    have HO := hide HO
    by_cases hlt : 0 < k
    · go_wp2_with fail
      refine (one_lit R (p + 2 + 3 * m) [0, 1, -5, 100, 10000, 7] _ _ HO.out.rd (by omega) (by rfl) (by omega) (by omega)).mono ?_
      rintro e W3 ⟨y, hy, rfl, hr3, hg3⟩
      have H3 := hide (HO.out.step hr3 hg3)
      clear hy hr3 hg3 HO c0 c1 c2 f0 f1 f2
      obtain ⟨c0, c1, c2, f0, f1, f2⟩ := H3.out.cells
      have hlo3 := H3.out.lo
      have hlt3 := H3.out.lt
      go_wp2_with (at_builtin; refine wpList_push rfl (.tmp 23) (.tmp 25) 22 3 1 8 i0 _ rfl Try.underlying22 hi hz0 hz1 hz2 rfl (by omega) (by omega) W3 (w.heap.size + 1) (.slice Af m cf) m _ rfl H3.out.fr [y] 1 1 rfl rfl (by omega) (by omega) ?_; intro v1 w1' ho1 hb1 hg1 hv1; have D := hide (H3.out.pushF ho1 hg1 hv1); obtain ⟨e0, e1, e2, g0, g1, g2⟩ := H3.out.cellsF hg1; obtain ⟨A1, cc1, hvv1, _, _, _⟩ := ho1.rowI; clear ho1 hb1 hg1 hv1; subst hvv1; clear H3 c0 c1 c2 f0 f1 f2)
      refine (pick_any R (p + 2 + 3 * m + 1) 3 _ D.out.rd (by omega) (by omega) (by omega)).mono ?_
      rintro e W4 ⟨z, hz, rfl, hr4, hg4⟩
      have H4 := hide (D.out.step hr4 hg4)
      clear hz hr4 hg4 D e0 e1 e2 g0 g1 g2
      by_cases hz0' : z = 0
      · subst hz0'
        go_wp2_with fail
        refine (one_lit R (p + 2 + 3 * m + 1 + 1) [0, 2, -10000, 8] _ _ H4.out.rd (by omega) (by rfl) (by omega) (by omega)).mono ?_
        rintro e W5 ⟨y2, hy2, rfl, hr5, hg5⟩
        have H5 := hide (H4.out.step hr5 hg5)
        clear hy2 hr5 hg5 H4
        obtain ⟨c0, c1, c2, f0, f1, f2⟩ := H5.out.cells
        have hlo5 := H5.out.lo
        have hlt5 := H5.out.lt
        go_wp2_with (at_builtin; refine wpList_push rfl (.tmp 35) (.tmp 37) 22 3 1 8 i0 _ rfl Try.underlying22 hi hz0 hz1 hz2 rfl (by omega) (by omega) W5 (w.heap.size + 1) (.slice Ab m cb) m _ rfl H5.out.bk [y2] 1 1 rfl rfl (by omega) (by omega) ?_; intro v2 w2' ho2 hb2 hg2 hv2; have D2 := hide (H5.out.pushB ho2 hg2 hv2); obtain ⟨e0, e1, e2, g0, g1, g2⟩ := H5.out.cellsB hg2; obtain ⟨A2, cc2, hvv2, _, _, _⟩ := ho2.rowI; clear ho2 hb2 hg2 hv2; subst hvv2; clear H5 c0 c1 c2 f0 f1 f2)
        go_roundw
        case rel => exact ⟨k - 1, m + 1, by omega, by omega, rfl, hide ⟨_, _, _, _, _, { D2.out with rd := D2.out.rd.mono (by omega) }⟩⟩
        case measure => simp [intOf]; omega
      · obtain ⟨c0, c1, c2, f0, f1, f2⟩ := H4.out.cells
        have hlo5 := H4.out.lo
        have hlt5 := H4.out.lt
        go_wp2_with (at_builtin; refine wpList_push rfl (.tmp 35) (.tmp 37) 22 3 1 8 i0 _ rfl Try.underlying22 hi hz0 hz1 hz2 rfl (by omega) (by omega) W4 (w.heap.size + 1) (.slice Ab m cb) m _ rfl H4.out.bk [y] 1 1 rfl rfl (by omega) (by omega) ?_; intro v2 w2' ho2 hb2 hg2 hv2; have D2 := hide (H4.out.pushB ho2 hg2 hv2); obtain ⟨e0, e1, e2, g0, g1, g2⟩ := H4.out.cellsB hg2; obtain ⟨A2, cc2, hvv2, _, _, _⟩ := ho2.rowI; clear ho2 hb2 hg2 hv2; subst hvv2; clear H4 c0 c1 c2 f0 f1 f2)
        go_roundw
        case rel => exact ⟨k - 1, m + 1, by omega, by omega, rfl, hide ⟨_, _, _, _, _, { D2.out with rd := D2.out.rd.mono (by omega) }⟩⟩
        case measure => simp [intOf]; omega
    · go_wp2_with fail
      refine (pick_any R (p + 2 + 3 * m) 20 _ HO.out.rd (by omega) (by omega) (by omega)).mono ?_
      rintro e W3 ⟨z, hz, rfl, hr3, hg3⟩
      have H3 := hide (HO.out.step hr3 hg3)
      clear hz hr3 hg3 HO c0 c1 c2 f0 f1 f2
      obtain ⟨c0, c1, c2, f0, f1, f2⟩ := H3.out.cells
      have hlo3 := H3.out.lo
      have hlt3 := H3.out.lt
      by_cases hz0' : z = 0
      · subst hz0'
        go_wp2_with (at_builtin; refine wpList_push rfl (.tmp 46) (.tmp 47) 22 3 1 8 i0 _ rfl Try.underlying22 hi hz0 hz1 hz2 rfl (by omega) (by omega) W3 (w.heap.size + 1) (.slice Ab m cb) m _ rfl H3.out.bk [0] 1 1 rfl rfl (by omega) (by omega) ?_; intro v2 w2' ho2 hb2 hg2 hv2; obtain ⟨A2, cc2, hvv2, _, _, row2⟩ := ho2.rowI; obtain ⟨e0, e1, e2, g0, g1, g2⟩ := H3.out.cellsB hg2; have D2 := hide (H3.out.pushB ho2 hg2 hv2); subst hvv2)
        have hz2' := hg2.size
        refine (spoil_any R (p + 2 + 3 * m + 1) w2'.heap.size A2 (m + 1) cc2 _ 10001 _ ((H3.out.midB hg2)) (by omega) row2.ints (Nat.le_refl _) (by omega)).mono ?_
        rintro e W4 ⟨A7, n7, c7, zs7, hn7, rfl, h71, h72, hrow7, hr4, hg4⟩
        have HE := hide ((H3.out.spoiled hg2 hr4 hg4 hrow7 (by omega) ⟨by omega, h71, h72⟩).mono (q := p + 100) (by omega))
        have c4 := AnyOp.cellsOf ((hg4.block gb (by omega) (fun e => by injection e with e; have := H3.out.rl; omega)).trans ((hg2.block gb hlt3 (fun e => H3.out.nb e.symm)).trans H3.out.box))
        clear ho2 hb2 hv2 D2 e0 e1 e2 g0 g1 g2 hr4 hg4 hrow7 row2 hg2 H3 c0 c1 c2 f0 f1 f2
        obtain ⟨c0, c1, c2, f0, f1, f2⟩ := c4
        obtain ⟨d0, d1, d2, q0, q1, q2⟩ := HE.out.cellsR
        obtain ⟨b0, b1, b2, s0, s1, s2⟩ := HE.out.cells
        go_wp2_with fail
        refine bodyPost_ret (v := .agg #[.slice Af m cf, .slice A7 n7 c7, .int .i64 ver]) (by simp [results, Try.results34, go_sem, d0, d1, d2]) rfl (HE.out.done ?_ ?_)
        · exact (((Only.refl _ _ _).set (by omega) (by omega) _).set (by omega) (by omega) _).set (by omega) (by omega) _
        · simp [World.setCell]
      · by_cases hz1' : z = 1
        · subst hz1'
          go_wp2_with fail
          refine (one_lit R (p + 2 + 3 * m + 1) [-1, 1001] _ _ H3.out.rd (by omega) (by rfl) (by omega) (by omega)).mono ?_
          rintro e W4 ⟨u, hu, rfl, hr4, hg4⟩
          have hu0 : -1 ≤ u ∧ u ≤ 1001 := by simp at hu; omega
          have H4 := hide (H3.out.step hr4 hg4)
          have HE := hide (((H4.out.setVer hu0.1 hu0.2).endB (by omega) (by omega)).mono (q := p + 100) (by omega))
          clear hu hr4 hg4 H3 c0 c1 c2 f0 f1 f2
          obtain ⟨c0, c1, c2, f0, f1, f2⟩ := H4.out.cells
          obtain ⟨d0, d1, d2, q0, q1, q2⟩ := HE.out.cellsR
          obtain ⟨b0, b1, b2, s0, s1, s2⟩ := HE.out.cells
          go_wp2_with fail
          refine bodyPost_ret (v := .agg #[.slice Af m cf, .slice Ab m cb, .int .i64 u]) (by simp [results, Try.results34, go_sem, d0, d1, d2]) rfl (HE.out.done ?_ ?_)
          · exact (((Only.refl _ _ _).set (by omega) (by omega) _).set (by omega) (by omega) _).set (by omega) (by omega) _
          · simp [World.setCell]
        · have HE := hide ((H3.out.endB (by omega) (by omega)).mono (q := p + 100) (by omega))
          obtain ⟨d0, d1, d2, q0, q1, q2⟩ := HE.out.cellsR
          go_wp2_with fail
          refine bodyPost_ret (v := .agg #[.slice Af m cf, .slice Ab m cb, .int .i64 ver]) (by simp [results, Try.results34, go_sem, d0, d1, d2]) rfl (HE.out.done ?_ ?_)
          · exact (((Only.refl _ _ _).set (by omega) (by omega) _).set (by omega) (by omega) _).set (by omega) (by omega) _
          · simp [World.setCell]
end Go.Proofs.Ytjaagekckbjhdaa
