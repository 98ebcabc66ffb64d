/-
  The row and the card of PortPos: a point's position is the number of its way, the same both ways about; other kinds need none; a step turned twice is as it was.
  Conditions: port.kinds and port.none start as the program's text lays them (the tied card).
-/
import Derived.Test.YtaajbhdmnbabhaaDoorPortPos
import Derived.Test.YtaajbhdmnbabhaaDoorLaid
import Derived.Test.YtaajbhdmnbabhaaDoorTie
import Derived.Test.YtaajbhdmnbabhaaDoorCards
import Derived.Lib.SmallJoins
import Derived.SevenTiedAt
namespace Go.Proofs.YtaajbhdmnbabhaaDoor
open Go.RowKit Go.WideShapes Go.ChangeShapes Go.ChangeAt Go.WideMaps Go.WideElems Go.Joins Go.Deep

theorem ownP : ownKnob Tryd.prog.godebug = none := by kernel_rfl
theorem laidP : laidOutB Tryd.prog = true := by kernel_rfl
abbrev laidL : List (String × DataW Unit) := [("lockbar/port.kinds", Rows.laid_lockbar_port_kinds), ("lockbar/port.none", Rows.laid_lockbar_port_none)]
theorem gKinds : Tryd.prog.globalNamed "lockbar/port.kinds" = some 1 := by kernel_rfl
theorem gNone : Tryd.prog.globalNamed "lockbar/port.none" = some 0 := by kernel_rfl
theorem tKinds : (Tryd.prog.globals[1]?).map (·.type) = some 57 := by kernel_rfl
theorem tNone : (Tryd.prog.globals[0]?).map (·.type) = some 37 := by kernel_rfl

theorem leafs_none_all : (List.range 2).map (leaf (H := Unit) Tryd.prog 4 37 Rows.laid_lockbar_port_none) = (List.range 2).map (fun o => noneL[o]?) := by kernel_rfl
theorem leafs_kinds_all : (List.range 28).map (leaf (H := Unit) Tryd.prog 6 57 Rows.laid_lockbar_port_kinds) = (List.range 28).map (fun o => kindL[o]?) := by kernel_rfl
theorem leafs_none (o : Nat) (ho : o < 2) : leaf (H := Unit) Tryd.prog 4 37 Rows.laid_lockbar_port_none o = noneL[o]? := by
  have h := congrArg (fun l => l[o]?) leafs_none_all
  simp only [List.getElem?_map, List.getElem?_range ho, Option.map_some, Option.some.injEq] at h
  exact h
theorem leafs_kinds (o : Nat) (ho : o < 28) : leaf (H := Unit) Tryd.prog 6 57 Rows.laid_lockbar_port_kinds o = kindL[o]? := by
  have h := congrArg (fun l => l[o]?) leafs_kinds_all
  simp only [List.getElem?_map, List.getElem?_range ho, Option.map_some, Option.some.injEq] at h
  exact h

theorem kinds_of_laid {W : World} (h : laidMetH Tryd.prog laidL W) : Kinds W := by
  rw [MakeChecks.laidMetH_plain _ _ _ (by kernel_rfl)] at h
  obtain ⟨ps, ⟨g0, t0, cs0, f0, p0, q0, hg0, ht0, hv0, hd0, ⟨g1, t1, cs1, f1, p1, q1, hg1, ht1, hv1, hd1, _, _⟩, _⟩, _, _⟩ := h
  obtain rfl := Option.some.inj (gKinds.symm.trans hg0)
  obtain rfl := Option.some.inj (gNone.symm.trans hg1)
  obtain rfl := Option.some.inj (tKinds.symm.trans ht0)
  obtain rfl := Option.some.inj (tNone.symm.trans ht1)
  refine ⟨fun o v hv => ?_, fun o v hv => ?_⟩
  · have h2 := leaf_cell 4 hd1 ((leafs_none o (List.getElem?_eq_some_iff.1 hv).1).trans hv)
    have := World.var?_cell hg1 hv1 o
    rw [this]
    simpa using h2
  · have h2 := leaf_cell 6 hd0 ((leafs_kinds o (List.getElem?_eq_some_iff.1 hv).1).trans hv)
    have := World.var?_cell hg0 hv0 o
    rw [this]
    simpa using h2

/-- The door's own heap meets the condition: three closed facts. -/
theorem door_met (os : Os) (args : Array Value) : laidMetH Tryd.prog laidL ((World.doorLaid Tryd.prog 400 os).forCall (fun _ _ => 0) ⟨#[], args, []⟩).memory :=
  laidMetH_of_parts3 (fuel := 8) (laidMet_of_run' 8 (by kernel_rfl) (by kernel_rfl)) (by kernel_rfl) (by kernel_rfl)

theorem open_step {H : Type} {enc : TypeId × Value → H} {P : Program} {w : World} {base : Nat} {spare : Nat → Bool} {held : Bool} {r : Reach} {b0 : Nat} {t : TypeId} {f0 f1 f2 : Field} {v : Value} {d : DataW H} {p : List MemPlace} (hs : P.underlying t = some (.struct #[f0, f1, f2]))
    (t0 : P.underlying f0.type = some (.int .i64)) (t1 : P.underlying f1.type = some (.int .i64)) (t2 : P.underlying f2.type = some (.int .i64)) (hone : oneCellFields P #[f0, f1, f2] = true) (hC : P.cellsOf t = 3)
    (hv : Value.okWide P w r b0 t v) (h : DataW.Trod enc P w base spare held t v d p) : ∃ x y z, v = .agg #[.int .i64 x, .int .i64 y, .int .i64 z] := by
  obtain ⟨v0, v1, v2, y0, y1, y2, n, rfl, _, _, h0, h1, h2⟩ := open_agg3 hs hone hC hv h
  obtain ⟨a, e0, _⟩ := DataW.trod_int t0 h0
  obtain ⟨b, e1, _⟩ := DataW.trod_int t1 h1
  obtain ⟨c, e2, _⟩ := DataW.trod_int t2 h2
  simp only [List.cons.injEq, and_true] at e0 e1 e2
  subst e0 e1 e2
  exact ⟨a, b, c, rfl⟩
theorem u8_bounds {x : Int} (h : (Lit.int .u8 x).wf = true) : 0 ≤ x ∧ x ≤ 255 := by
  simp [Lit.wf, IntKind.min, IntKind.max, IntKind.signed, IntKind.bits] at h
  exact ⟨by omega, by omega⟩

set_option maxRecDepth 100000 in
theorem portPos_lifted (os : Os) (started : os.Started) (H : Type) (enc : TypeId × Value → H) :
    ReturnsInHanded {} Tryd.checked os 5 .any (fun w args => (Rows.portPosSpec.pre enc Tryd.prog Tryd.f5 [] false w args ∧ laidMetH Tryd.prog laidL w) ∧ sizedMet enc Tryd.prog Tryd.f5 (OpenSpec.ofChange Rows.portPosSpec) false w args)
      (Rows.portPosSpec.post enc Tryd.prog Tryd.f5 false true false false) := by
  refine law_lifted_laid (C := Tryd.checked) (tb := 4) ownP started (by kernel_rfl) Tryd.func5
    (ChangeSpec.witness_shaped (enc := enc) (C := Tryd.checked) (os := os) (X := fun w _ => laidMetH Tryd.prog laidL w) false (World.doorLaid Tryd.prog 400 os) #[.int .u8 0, .agg #[.int .i64 0, .int .i64 0, .int .i64 0]] 8 rfl (World.shaped_of_RefB (by kernel_rfl) (by kernel_rfl)) (by kernel_rfl) (by kernel_rfl) (by kernel_rfl) (door_met os _))
    laidP (by kernel_rfl) rfl rfl Tryd.underlying4 ?_
  intro W base args ds p hval0 hA0 hlt hL
  have hval : ∀ (j : Nat) t v, Tryd.f5.params[j]? = some t → args[j]? = some v → Value.okWide Tryd.prog W .any base t v := hval0
  have hA : DataW.TrodAll enc Tryd.prog W 0 (fun _ => true) true Tryd.f5.params.toList args.toList ds p := hA0
  clear hval0 hA0
  rw [Tryd.params5] at hA hval
  obtain ⟨v0, v1, d0, d1, p0, p1, rfl, rfl, rfl, h0, h1⟩ := trodAll_two hA
  obtain ⟨k, rfl, rfl, rfl, wk⟩ := open_int Tryd.underlying5 (hval 0 5 v0 rfl rfl) h0
  obtain ⟨x, y, z, rfl⟩ := open_step Tryd.underlying33 Tryd.underlying3 Tryd.underlying3 Tryd.underlying3 (by kernel_rfl) (by kernel_rfl) (hval 1 33 v1 rfl rfl) h1
  exact ⟨⟨rfl, rfl, rfl⟩, portPos_walk k x y z (u8_bounds wk).1 (u8_bounds wk).2 W (kinds_of_laid hL)⟩

theorem portPos_holds : Rows.PortPosSaid :=
  OpenClaim.holds_of_wide 5 Tryd.f5 rfl rfl rfl rfl rfl rfl rfl ⟨rfl, rfl, rfl, rfl, rfl⟩ rfl rfl rfl rfl rfl (by kernel_rfl) Tryd.func5 (by kernel_rfl)
    (of_decide_eq_true (by kernel_rfl)) (by unfold Func.isWrapper; first | (rw [if_pos (by decide +kernel)]; kernel_rfl) | (rw [if_neg (of_decide_eq_false (by kernel_rfl))]; exact ⟨rfl, rfl⟩))
    (fun os started H enc _ => portPos_lifted os started H enc)

theorem portPos_card : Rows.PortPosCardSaid :=
  Claim7.holds_tied_plain_at .later [] [.data, .data] true (true, "1c3da90c4511877a79ee48325b996746eebca747ad2bfc93711fd6b6987d6ac9") false
    portPos_holds (fun _ h => by cases h) (by kernel_rfl) (fun _ h => by cases h) portPos_row_tie rfl ⟨rfl, rfl⟩ (by kernel_rfl) rfl
    (fun f fn hf hfn => by
      obtain rfl : f = 5 := Option.some.inj ((show Tryd.prog.funcNamed "lockbar/lockbarlaw05.PortPos" = some 5 by kernel_rfl).symm.trans hf) |>.symm
      obtain rfl : fn = Tryd.f5 := (Option.some.inj (Tryd.func5.symm.trans hfn)).symm
      exact ⟨by kernel_rfl, fun j t ht => by
        rw [Tryd.params5] at ht
        have hm : t ∈ [5, 33] := by simpa using Array.mem_of_getElem? ht
        have hall : ([5, 33].all fun u => !Tryd.prog.wantsStandIn u) = true := by kernel_rfl
        exact (show Tryd.prog.wantsStandIn t = false by simpa using List.all_eq_true.1 hall t hm)⟩)
    (by kernel_rfl)
#print axioms portPos_card
end Go.Proofs.YtaajbhdmnbabhaaDoor
