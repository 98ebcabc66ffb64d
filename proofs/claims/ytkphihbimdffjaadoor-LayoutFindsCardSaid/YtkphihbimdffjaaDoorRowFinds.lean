/-
  LayoutFinds: the signal, and the exit, that are told of a port stand there, and no one ahead of them does; of a port where none stands none is told.
  Conditions: port.kinds and port.none start as the program's text lays them (the tied card; it ties them to the pruned copy that the seat holds).
-/
import Derived.Test.YtkphihbimdffjaaDoorFinds
import Derived.Test.YtkphihbimdffjaaDoorOpen
import Derived.Test.YtkphihbimdffjaaDoorRowP
namespace Go.Proofs.YtkphihbimdffjaaDoor
open Go.RowKit Go.WideShapes Go.ChangeShapes Go.ChangeAt Go.WideMaps Go.WideElems Go.Joins Go.Deep

set_option maxRecDepth 100000 in
theorem layoutFinds_lifted (os : Os) (started : os.Started) (H : Type) (enc : TypeId × Value → H) :
    ReturnsInHanded {} Tryd.checked os 6 .any (fun w args => (Rows.layoutFindsSpec.pre enc Tryd.prog Tryd.f6 [] false w args ∧ laidMetH Tryd.prog laidL w) ∧ sizedMet enc Tryd.prog Tryd.f6 (OpenSpec.ofChange Rows.layoutFindsSpec) false w args)
      (Rows.layoutFindsSpec.post enc Tryd.prog Tryd.f6 false true false false) := by
  refine law_lifted_laid (C := Tryd.checked) (tb := 4) ownP started (by kernel_rfl) Tryd.func6
    (ChangeSpec.witness_shaped (enc := enc) (C := Tryd.checked) (os := os) (X := fun w _ => laidMetH Tryd.prog laidL w) false (World.doorLaid Tryd.prog 400 os) #[.agg #[.slice none 0 0, .slice none 0 0, .slice none 0 0, .slice none 0 0, .int .i64 0, .int .i64 0, .int .i64 0, .int .i64 0, .int .i64 0, .int .i64 0, .int .i64 0], .agg #[.int .i64 0, .int .i64 0]] 8 rfl (World.shaped_of_RefB (by kernel_rfl) (by kernel_rfl)) (by kernel_rfl) (by kernel_rfl) (by kernel_rfl) (door_met os _))
    laidP (by kernel_rfl) rfl rfl Tryd.underlying4 ?_
  intro W base args ds p hval0 hA0 hlt hL
  have hval : ∀ (j : Nat) t v, Tryd.f6.params[j]? = some t → args[j]? = some v → Value.okWide Tryd.prog W .any base t v := hval0
  have hA : DataW.TrodAll enc Tryd.prog W 0 (fun _ => true) true Tryd.f6.params.toList args.toList ds p := hA0
  clear hval0 hA0
  rw [Tryd.params6] at hA hval
  obtain ⟨vs⟩ := args
  dsimp only at hA
  obtain ⟨v0, vs0, d0, ds0, p0, q0, rfl, rfl, rfl, h0, hA⟩ := trodAll_cons hA
  obtain ⟨v1, vs1, d1, ds1, p1, q1, rfl, rfl, rfl, h1, hA⟩ := trodAll_cons hA
  obtain ⟨rfl, rfl, rfl⟩ := trodAll_nil hA
  obtain ⟨L0, w0, rfl, hl0⟩ := open_layout (hval 0 29 v0 rfl rfl) h0
  obtain ⟨x1, y1, rfl⟩ := open_port (hval 1 31 v1 rfl rfl) h1
  exact ⟨⟨rfl, rfl, rfl⟩, layoutFinds_walk L0 w0 x1 y1 W hl0 (kinds_of_laid hL)⟩

theorem layoutFinds_holds : Rows.LayoutFindsSaid :=
  OpenClaim.holds_of_wide 6 Tryd.f6 rfl rfl rfl rfl rfl rfl rfl ⟨rfl, rfl, rfl, rfl, rfl⟩ rfl rfl rfl rfl rfl (by kernel_rfl) Tryd.func6 (by kernel_rfl)
    (of_decide_eq_true (by kernel_rfl)) (by unfold Func.isWrapper; first | (rw [if_pos (by decide +kernel)]; kernel_rfl) | (rw [if_neg (of_decide_eq_false (by kernel_rfl))]; exact ⟨rfl, rfl⟩))
    (fun os started H enc _ => layoutFinds_lifted os started H enc)

theorem layoutFinds_card : Rows.LayoutFindsCardSaid :=
  Claim7.holds_tied_plain_at .later [] [.data, .data] true (true, "1e7f514dbb31303eded64312d141cc0a5ee797b482e87a942d6e3c1dce5cc0de") false
    layoutFinds_holds (fun _ h => by cases h) (by kernel_rfl) (fun _ h => by cases h) layoutFinds_row_tie rfl ⟨rfl, rfl⟩ (by kernel_rfl) rfl
    (fun f fn hf hfn => by
      obtain rfl : f = 6 := Option.some.inj ((show Tryd.prog.funcNamed "lockbar/lockbarlaw06.LayoutFinds" = some 6 by kernel_rfl).symm.trans hf) |>.symm
      obtain rfl : fn = Tryd.f6 := (Option.some.inj (Tryd.func6.symm.trans hfn)).symm
      exact ⟨by kernel_rfl, fun j t ht => by
        rw [Tryd.params6] at ht
        have hm : t ∈ [29, 31] := by simpa using Array.mem_of_getElem? ht
        have hall : ([29, 31].all fun u => !Tryd.prog.wantsStandIn u) = true := by kernel_rfl
        exact (show Tryd.prog.wantsStandIn t = false by simpa using List.all_eq_true.1 hall t hm)⟩)
    (by kernel_rfl)
#print axioms layoutFinds_card
end Go.Proofs.YtkphihbimdffjaaDoor
