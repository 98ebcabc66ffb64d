/-
  The copy m in its variable, as LayoutOne changes it.
-/
import Derived.Test.YtkphihbimdffjaaDoorOne2
import Derived.Test.YtkphihbimdffjaaDoorBoxes
namespace Go.Proofs.YtkphihbimdffjaaDoor
open Go.RowKit Go.Shelf

theorem right_few {L : Lay} (h : rightL L = true) : Few L := by
  unfold rightL sizesT at h
  simp only [Bool.and_eq_true, List.all_eq_true, decide_eq_true_eq] at h
  obtain ⟨⟨⟨⟨⟨hs, _⟩, _⟩, _⟩, _⟩, ho⟩ := h
  refine ⟨by omega, by omega, by omega, by omega, fun x hx => ?_⟩
  have := ho x hx
  unfold overT at this
  simp only [Bool.and_eq_true, decide_eq_true_eq] at this
  omega
/-- What m holds ahead of the test. -/
def BadAt (w : World) (g : Nat) (w' : World) : Prop := ∃ (M : Lay) (q : Where), BoxL w' g M q ∧ LayAt w' q M ∧ rightL M = false ∧ Below w.heap.size w w'
theorem BadAt.drew {w W : World} {g : Nat} (h : BadAt w g W) : BadAt w g W.drew := by
  obtain ⟨M, q, a, b, c, d⟩ := h
  have k : Below W.heap.size W W.drew := (Below.refl _ _).drew
  exact ⟨M, q, a.below k, b.below k, c, d.drew⟩
structure MAt (w W : World) (g : Nat) (q : Where) (L : Lay) (es : List (Ext' × Value)) : Prop where
  own : Owned w.heap.size W q L es
  bx : W.heap[g]? = some (.cells (L.cells q).toArray 29 (0, 0))
  low : w.heap.size ≤ g
  below : Below w.heap.size w W
section
variable {w W : World} {g : Nat} {q : Where} {L : Lay} {es : List (Ext' × Value)}
theorem MAt.box (h : MAt w W g q L es) : BoxL W g L q :=
  ⟨(Array.getElem?_eq_some_iff.1 h.bx).1, fun i v e => by simp [World.cell?, h.bx, e]⟩
theorem MAt.bad (h : MAt w W g q L es) (hr : rightL L = false) : BadAt w g W := ⟨L, q, h.box, h.own.lay, hr, h.below⟩
theorem MAt.fz (h : MAt w W g q L es) (i : Nat) : W.frozen? ⟨g, i, none⟩ = false := frozen_of_row _ _ _ _ _ h.bx
theorem MAt.next {W' : World} (h : MAt w W g q L es) (hb : Below W.heap.size W W') : MAt w W' g q L es :=
  ⟨h.own.below hb, (hb.block _ (Array.getElem?_eq_some_iff.1 h.bx).1).trans h.bx, h.low, bchain h.below hb⟩
theorem MAt.setS {sg a o : Nat} {c c' : Sec} {u : Value} (h : MAt w W g q L es) (hp : q.a0 = some ⟨sg, 0, none⟩) (hc : L.secs[a]? = some c) (ho : o < 11) (he : c'.enc = c.enc.set o u) (hk : 0 ≤ c'.k ∧ c'.k ≤ 255) :
    MAt w (W.setCell ⟨sg, a * 11 + o, none⟩ u) g q (setS L a c') es := by
  have hn : 0 < L.secs.length := by have := (List.getElem?_eq_some_iff.1 hc).1; omega
  obtain ⟨g', cur, e, hB, hg, _⟩ := owns_heap h.own.secs hn
  rw [hp] at e
  obtain rfl : sg = g' := by cases e; rfl
  refine ⟨h.own.set hp hc ho he hk, ?_, h.low, h.below.setCell (p := ⟨sg, a * 11 + o, none⟩) hB _⟩
  rw [Below.heap_setCell _ _ _ _ (show g ≠ sg from fun e => by
    subst e
    have := h.bx
    rw [hg] at this
    cases this), h.bx]
  simp [Lay.cells, Go.Proofs.YtkphihbimdffjaaDoor.setS]
def setT (L : Lay) (x y : Int) : Lay := ⟨L.secs, L.sigs, L.exits, L.flanks, x, L.t1, y, L.t3, L.t4, L.t5, L.t6⟩
theorem MAt.setBox {i : Nat} {v : Value} {q' : Where} {M : Lay} {es' : List (Ext' × Value)} (h : Below w.heap.size w W) (hb : W.heap[g]? = some (.cells (L.cells q).toArray 29 (0, 0))) (hl : w.heap.size ≤ g) (ho : Owned w.heap.size W q' M es') (e : (L.cells q).set i v = M.cells q') : MAt w (W.setCell ⟨g, i, none⟩ v) g q' M es' := by
  refine ⟨ho.kept (set_others W ⟨g, i, none⟩ v) hb (by decide) (by decide) (by decide) (by decide) (by decide), ?_, hl, h.setCell (p := ⟨g, i, none⟩) hl _⟩
  rw [heap_setCell_same _ _ _ _ _ _ hb, ← e]
  simp
theorem MAt.setT (h : MAt w W g q L es) {i : Nat} {v : Value} {x y : Int} (e : (L.cells q).set i v = (setT L x y).cells q) : MAt w (W.setCell ⟨g, i, none⟩ v) g q (setT L x y) es :=
  MAt.setBox h.below h.bx h.low ⟨h.own.secs, h.own.sigs, h.own.exits, h.own.flanks, h.own.heads, h.own.overs, h.own.kinds⟩ e
theorem heap_grown {W' : World} {base e size : Nat} {v : Value} {n : Nat} {xs : List Value} (h : W.ownsRow base e size v n xs) (k : W.grownBy W' v.ownBlock) {c : Array Value} {T : TypeId} (hg : W.heap[g]? = some (.cells c T (0, 0))) (hn : e ≠ T) : W'.heap[g]? = some (.cells c T (0, 0)) := by
  refine (k.block g (Array.getElem?_eq_some_iff.1 hg).1 fun he => ?_).trans hg
  rcases h.2 with ⟨rfl, _⟩ | ⟨g', cap', cur', rfl, _, hg', _⟩
  · cases he
  · obtain rfl : g = g' := by simpa [Value.ownBlock] using he
    rw [hg] at hg'
    cases hg'
    exact hn rfl
theorem below_grown {W' : World} {e size : Nat} {v : Value} {n : Nat} {xs : List Value} (h : W.ownsRow w.heap.size e size v n xs) (hb : Below w.heap.size w W) (k : W.grownBy W' v.ownBlock) : Below w.heap.size w W' :=
  hb.grown k hb.size fun j hj => (h.lt j hj).1
theorem MAt.addG {W' : World} {A' : Option Addr} {n' c' : Nat} {x : Prt} (h : MAt w W g q L es) (k : W.grownBy W' (Value.slice q.a1 L.sigs.length q.c1).ownBlock) (hr : W'.ownsRow w.heap.size 50 2 (.slice A' n' c') (L.sigs.length + 1) (L.sigs.flatMap Prt.enc ++ [x].flatMap Prt.enc)) :
    MAt w (W'.setCell ⟨g, 1, none⟩ (.slice A' n' c')) g ⟨q.a0, A', q.a2, q.a3, q.c0, c', q.c2, q.c3⟩ (addG L x) es := by
  obtain ⟨rfl, ho⟩ := h.own.addG k hr
  refine MAt.setBox (below_grown h.own.sigs h.below k) (heap_grown h.own.sigs k h.bx (by decide)) h.low ho ?_
  simp [Lay.cells, Go.Proofs.YtkphihbimdffjaaDoor.addG]
theorem MAt.addF {W' : World} {A' : Option Addr} {n' c' : Nat} {x : Flk} (h : MAt w W g q L es) (k : W.grownBy W' (Value.slice q.a3 L.flanks.length q.c3).ownBlock) (hr : W'.ownsRow w.heap.size 55 4 (.slice A' n' c') (L.flanks.length + 1) (L.flanks.flatMap Flk.enc ++ [x].flatMap Flk.enc)) :
    MAt w (W'.setCell ⟨g, 3, none⟩ (.slice A' n' c')) g ⟨q.a0, q.a1, q.a2, A', q.c0, q.c1, q.c2, c'⟩ (addF L x) es := by
  obtain ⟨rfl, ho⟩ := h.own.addF k hr
  refine MAt.setBox (below_grown h.own.flanks h.below k) (heap_grown h.own.flanks k h.bx (by decide)) h.low ho ?_
  simp [Lay.cells, Go.Proofs.YtkphihbimdffjaaDoor.addF]
theorem MAt.addE {W' : World} {A' : Option Addr} {n' c' : Nat} {x : Ext'} {v : Value} (h : MAt w W g q L es) (k : W.grownBy W' (Value.slice q.a2 L.exits.length q.c2).ownBlock) (hr : W'.ownsRow w.heap.size 53 3 (.slice A' n' c') (L.exits.length + 1) (es.flatMap Ext'.enc ++ [(x, v)].flatMap Ext'.enc)) (hv : W.ownsRow w.heap.size 33 3 v x.over.length (x.over.flatMap Stp.enc)) :
    MAt w (W'.setCell ⟨g, 2, none⟩ (.slice A' n' c')) g ⟨q.a0, q.a1, A', q.a3, q.c0, q.c1, c', q.c3⟩ (addE L x) (es ++ [(x, v)]) := by
  obtain ⟨rfl, ho⟩ := h.own.addE k hr hv
  refine MAt.setBox (below_grown h.own.exits h.below k) (heap_grown h.own.exits k h.bx (by decide)) h.low ho ?_
  simp [Lay.cells, Go.Proofs.YtkphihbimdffjaaDoor.addE]
end
/-- One element in a new block. -/
theorem at_one {α : Type} {enc : α → List Value} {k : Nat} {W : World} {cs : Array Value} {T : TypeId} {y : α} (h : enc y = cs.toList) : At (W.alloc (.cells cs T)) k enc (some ⟨W.heap.size, 0, none⟩) [y] := by
  refine .inr ⟨_, 0, rfl, by simp, fun j x hx i v hv => ?_⟩
  cases j with
  | zero =>
    obtain rfl : y = x := by simpa using hx
    rw [h] at hv
    rw [World.cell?_alloc_at _ _ _ _ rfl, Nat.zero_mul, Nat.zero_add]
    simpa using hv
  | succ j => simp at hx
theorem owns_one {W : World} {base e size : Nat} {cs : Array Value} (hs : cs.size = size) (hb : base ≤ W.heap.size) : (W.alloc (.cells cs e)).ownsRow base e size (.slice (some ⟨W.heap.size, 0, none⟩) 1 1) 1 cs.toList := by
  refine ⟨by simpa using hs, .inr ⟨_, 1, cs, rfl, hb, World.alloc_heap_new _ _, Nat.le_refl _, by unfold maxLen; omega, by simpa using hs, ?_⟩⟩
  rw [List.take_of_length_le (by simp [hs])]
end Go.Proofs.YtkphihbimdffjaaDoor
