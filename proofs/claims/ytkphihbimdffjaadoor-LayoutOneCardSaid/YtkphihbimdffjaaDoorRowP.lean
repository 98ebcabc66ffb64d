/-
  What the two listed variables of package port hold, out of the rows' condition; parameters of one kind each, opened.
-/
import Derived.Test.YtkphihbimdffjaaDoorPort1
import Derived.Test.YtkphihbimdffjaaDoorFlat
import Derived.Test.YtkphihbimdffjaaDoorLaid
import Derived.Test.YtkphihbimdffjaaDoorTie
import Derived.Test.YtkphihbimdffjaaDoorCards
import Derived.Lib.SmallJoins
import Derived.SevenTiedAt
namespace Go.Proofs.YtkphihbimdffjaaDoor
open Go.RowKit Go.WideShapes Go.ChangeShapes Go.ChangeAt Go.WideMaps Go.WideElems Go.Joins Go.Deep

theorem ownP : ownKnob Tryd.prog.godebug = none := by kernel_rfl
theorem laidP : laidOutB Tryd.prog = true := by kernel_rfl
abbrev laidL : List (String × DataW Unit) := [("lockbar/port.kinds", Rows.laid_lockbar_port_kinds), ("lockbar/port.none", Rows.laid_lockbar_port_none)]
theorem gKinds : Tryd.prog.globalNamed "lockbar/port.kinds" = some 1 := by kernel_rfl
theorem gNone : Tryd.prog.globalNamed "lockbar/port.none" = some 0 := by kernel_rfl
theorem tKinds : (Tryd.prog.globals[1]?).map (·.type) = some 110 := by kernel_rfl
theorem tNone : (Tryd.prog.globals[0]?).map (·.type) = some 31 := by kernel_rfl

theorem leafs_none_all : (List.range 2).map (leaf (H := Unit) Tryd.prog 4 31 Rows.laid_lockbar_port_none) = (List.range 2).map (fun o => noneL[o]?) := by kernel_rfl
theorem leafs_kinds_all : (List.range 28).map (leaf (H := Unit) Tryd.prog 6 110 Rows.laid_lockbar_port_kinds) = (List.range 28).map (fun o => kindL[o]?) := by kernel_rfl
theorem leafs_none (o : Nat) (ho : o < 2) : leaf (H := Unit) Tryd.prog 4 31 Rows.laid_lockbar_port_none o = noneL[o]? := by
  have h := congrArg (fun l => l[o]?) leafs_none_all
  simp only [List.getElem?_map, List.getElem?_range ho, Option.map_some, Option.some.injEq] at h
  exact h
theorem leafs_kinds (o : Nat) (ho : o < 28) : leaf (H := Unit) Tryd.prog 6 110 Rows.laid_lockbar_port_kinds o = kindL[o]? := by
  have h := congrArg (fun l => l[o]?) leafs_kinds_all
  simp only [List.getElem?_map, List.getElem?_range ho, Option.map_some, Option.some.injEq] at h
  exact h

theorem kinds_of_laid {W : World} (h : laidMetH Tryd.prog laidL W) : Kinds W := by
  rw [MakeChecks.laidMetH_plain _ _ _ (by kernel_rfl)] at h
  obtain ⟨ps, ⟨g0, t0, cs0, f0, p0, q0, hg0, ht0, hv0, hd0, ⟨g1, t1, cs1, f1, p1, q1, hg1, ht1, hv1, hd1, _, _⟩, _⟩, _, _⟩ := h
  obtain rfl := Option.some.inj (gKinds.symm.trans hg0)
  obtain rfl := Option.some.inj (gNone.symm.trans hg1)
  obtain rfl := Option.some.inj (tKinds.symm.trans ht0)
  obtain rfl := Option.some.inj (tNone.symm.trans ht1)
  refine ⟨fun o v hv => ?_, fun o v hv => ?_⟩
  · have h2 := leaf_cell 4 hd1 ((leafs_none o (List.getElem?_eq_some_iff.1 hv).1).trans hv)
    have := World.var?_cell hg1 hv1 o
    rw [this]
    simpa using h2
  · have h2 := leaf_cell 6 hd0 ((leafs_kinds o (List.getElem?_eq_some_iff.1 hv).1).trans hv)
    have := World.var?_cell hg0 hv0 o
    rw [this]
    simpa using h2

/-- The door's own heap meets the condition: three closed facts. -/
theorem door_met (os : Os) (args : Array Value) : laidMetH Tryd.prog laidL ((World.doorLaid Tryd.prog 400 os).forCall (fun _ _ => 0) ⟨#[], args, []⟩).memory :=
  laidMetH_of_parts3 (fuel := 8) (laidMet_of_run' 8 (by kernel_rfl) (by kernel_rfl)) (by kernel_rfl) (by kernel_rfl)

set_option maxRecDepth 100000 in
theorem open_port {H : Type} {enc : TypeId × Value → H} {w : World} {base : Nat} {spare : Nat → Bool} {held : Bool} {r : Reach} {b0 : Nat} {v : Value} {d : DataW H} {p : List MemPlace}
    (hv : Value.okWide Tryd.prog w r b0 31 v) (h : DataW.Trod enc Tryd.prog w base spare held 31 v d p) : ∃ x0 x1, v = .agg #[.int .i64 x0, .int .i64 x1] := by
  obtain ⟨cs, rfl, hsz⟩ := okWide_struct Tryd.underlying31 hv
  obtain ⟨l⟩ := cs
  obtain ⟨fuel, hf⟩ := h
  have hc := fun o k => kinds_cells (n := 6) (ks := [.i64, .i64]) hf (by kernel_rfl) o k
  match l, hsz.trans (show Tryd.prog.cellsOf 31 = 2 by kernel_rfl) with
  | [c0, c1], _ =>
    obtain ⟨z0, e0, _⟩ := hc 0 _ rfl
    obtain ⟨z1, e1, _⟩ := hc 1 _ rfl
    obtain rfl := Option.some.inj e0
    obtain rfl := Option.some.inj e1
    exact ⟨z0, z1, rfl⟩
set_option maxRecDepth 100000 in
theorem open_step {H : Type} {enc : TypeId × Value → H} {w : World} {base : Nat} {spare : Nat → Bool} {held : Bool} {r : Reach} {b0 : Nat} {v : Value} {d : DataW H} {p : List MemPlace}
    (hv : Value.okWide Tryd.prog w r b0 33 v) (h : DataW.Trod enc Tryd.prog w base spare held 33 v d p) : ∃ x0 x1 x2, v = .agg #[.int .i64 x0, .int .i64 x1, .int .i64 x2] := by
  obtain ⟨cs, rfl, hsz⟩ := okWide_struct Tryd.underlying33 hv
  obtain ⟨l⟩ := cs
  obtain ⟨fuel, hf⟩ := h
  have hc := fun o k => kinds_cells (n := 6) (ks := [.i64, .i64, .i64]) hf (by kernel_rfl) o k
  match l, hsz.trans (show Tryd.prog.cellsOf 33 = 3 by kernel_rfl) with
  | [c0, c1, c2], _ =>
    obtain ⟨z0, e0, _⟩ := hc 0 _ rfl
    obtain ⟨z1, e1, _⟩ := hc 1 _ rfl
    obtain ⟨z2, e2, _⟩ := hc 2 _ rfl
    obtain rfl := Option.some.inj e0
    obtain rfl := Option.some.inj e1
    obtain rfl := Option.some.inj e2
    exact ⟨z0, z1, z2, rfl⟩
end Go.Proofs.YtkphihbimdffjaaDoor
