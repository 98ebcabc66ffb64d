/-
  Drawn regions by relations, where the region makes variables of its own and stores into them.
-/
import Derived.Test.YtkphihbimdffjaaDoorRel
namespace Go.Proofs.YtkphihbimdffjaaDoor
open Go.RowKit

/-- What lay below U is as it was; what cells there are stay, frozen or not as they were. -/
structure StX (U W W' : World) : Prop where
  below : Below U.heap.size W W'
  cells : ∀ (b o : Nat) (v : Value), W.cell? ⟨b, o, none⟩ = some v → (∃ v', W'.cell? ⟨b, o, none⟩ = some v') ∧ W'.frozen? ⟨b, o, none⟩ = W.frozen? ⟨b, o, none⟩
theorem StX.refl (U W : World) : StX U W W := ⟨Below.refl _ _, fun _ _ v h => ⟨⟨v, h⟩, rfl⟩⟩
theorem StX.trans {U X Y Z : World} (h : StX U X Y) (k : StX U Y Z) : StX U X Z :=
  ⟨h.below.trans k.below, fun b o v e => by
    obtain ⟨⟨v', e'⟩, f⟩ := h.cells b o v e
    obtain ⟨g, f'⟩ := k.cells b o v' e'
    exact ⟨g, f'.trans f⟩⟩
theorem StX.of_below {U W W' : World} (hC : ClB U W) (h : Below W.heap.size W W') : StX U W W' :=
  ⟨h.mono hC.size, fun b o v e => by
    have hb := World.block_lt_of_cell? _ _ e
    exact ⟨⟨v, (h.cell (p := ⟨b, o, none⟩) hb).trans e⟩, h.frozen (p := ⟨b, o, none⟩) hb⟩⟩
theorem StX.set {U W : World} {b o : Nat} {u : Value} (hb : U.heap.size ≤ b) : StX U W (W.setCell ⟨b, o, none⟩ u) := by
  refine ⟨(Below.refl _ _).setCell (by dsimp only; omega) _, fun c i v e => ⟨?_, ?_⟩⟩
  · exact cell?_setCell_some (w := W) (p := ⟨b, o, none⟩) (q := ⟨c, i, none⟩) (x := u) (v := v) e
  · simp
theorem ClB.stepX {U W W' : World} (h : ClB U W) (k : StX U W W') : ClB U W' := Below.trans h k.below

/-- A variable that the region has made: n cells, to be written. -/
def IsBox (U : World) (n : Nat) (v : Value) (w : World) : Prop := ∃ b, v = .pointer (some ⟨b, 0, none⟩) ∧ U.heap.size ≤ b ∧ ∀ i, i < n → (∃ x, w.cell? ⟨b, i, none⟩ = some x) ∧ w.frozen? ⟨b, i, none⟩ = false
theorem IsBox.step {U W W' : World} {n : Nat} {v : Value} (h : IsBox U n v W) (k : StX U W W') : IsBox U n v W' := by
  obtain ⟨b, e, hb, hc⟩ := h
  refine ⟨b, e, hb, fun i hi => ?_⟩
  obtain ⟨⟨x, hx⟩, hf⟩ := hc i hi
  obtain ⟨g, f⟩ := k.cells b i x hx
  exact ⟨g, f.trans hf⟩
theorem relX_value {P : Program} {U W : World} {c : Value} {r : Result Next} (h : r = .ok (.value c) W) (hC : ClB U W) : relUpon P (ClB U) (StX U) W (fun v _ => v = c) r := by
  rw [h]; exact ⟨hC, StX.refl _ _, rfl⟩
theorem relX_call {P : Program} {U W : World} {c : Value} {r : Result Next} {f : FuncId} {args : Array Value} (h : r = .ok (.enter f args) W) (hC : ClB U W) (hc : Calls P f args W fun e w' => e = .returned c ∧ Below W.heap.size W w') : relUpon P (ClB U) (StX U) W (fun v _ => v = c) r := by
  rw [h]; exact hc.mono fun e w' ⟨he, hb⟩ => ⟨c, he, hC.step hb, StX.of_below hC hb, rfl⟩
theorem relX_alloc {P : Program} {U W : World} {r : Result Next} {cs : Array Value} {T : TypeId} (h : r = .ok (.value (.pointer (some ⟨W.heap.size, 0, none⟩))) (W.alloc (.cells cs T))) (hC : ClB U W) : relUpon P (ClB U) (StX U) W (IsBox U cs.size) r := by
  rw [h]
  have hb : Below W.heap.size W (W.alloc (.cells cs T)) := bself
  refine ⟨hC.step hb, StX.of_below hC hb, _, rfl, hC.size, fun i hi => ⟨⟨cs[i], ?_⟩, ?_⟩⟩
  · rw [World.cell?_alloc_at _ _ _ _ rfl]
    exact Array.getElem?_eq_getElem hi
  · simp [go_sem]
/-- The law at these worlds. -/
theorem wp_region_rel_box {P : Program} {id : Nat} {Q : Exit → Act → World → Prop} {a : Act} {w : World} {l : List Oper} (lss : List Looks) (es : List (Nat × Nat)) (hm : P.follows .mixedOrders = true)
    (hB : (relB l.toArray a.tmps.size lss && es.all fun e => decide (e.1 < l.length) && writesB l.toArray (l.length - 1 - e.1) e.2) = true)
    (h : obFrom P (ClB w) (StX w) a (fun K => ∀ (vs : Nat → Value) (w' : World), ClB w w' → endSeen K vs w' es (Q .normal ⟨writeAll l vs a.tmps, a.defers⟩ w')) l lss []) : (Code.region id l.toArray true).wp P Q a w :=
  wp_region_rel (ClB w) (StX w) lss es hm hB (fun _ => StX.refl _ _) ((Below.refl _ _).drew) h
end Go.Proofs.YtkphihbimdffjaaDoor
