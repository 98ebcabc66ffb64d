/-
  The row and the card of PortWays: a way goes both ways about, between its ends, and no two between the same; from each port at least one goes, from a toe two; none goes back.
  Conditions: port.kinds and port.none start as the program's text lays them (the tied card).
-/
import Derived.Test.YtaajbhdmnbabhaaDoorPortWays
import Derived.Test.YtaajbhdmnbabhaaDoorPortRow
namespace Go.Proofs.YtaajbhdmnbabhaaDoor
open Go.RowKit Go.WideShapes Go.ChangeShapes Go.ChangeAt Go.WideMaps Go.WideElems Go.Joins Go.Deep

set_option maxRecDepth 100000 in
theorem portWays_lifted (os : Os) (started : os.Started) (H : Type) (enc : TypeId × Value → H) :
    ReturnsInHanded {} Tryd.checked os 3 .any (fun w args => (Rows.portWaysSpec.pre enc Tryd.prog Tryd.f3 [] false w args ∧ laidMetH Tryd.prog laidL w) ∧ sizedMet enc Tryd.prog Tryd.f3 (OpenSpec.ofChange Rows.portWaysSpec) false w args)
      (Rows.portWaysSpec.post enc Tryd.prog Tryd.f3 false true false false) := by
  refine law_lifted_laid (C := Tryd.checked) (tb := 4) ownP started (by kernel_rfl) Tryd.func3
    (ChangeSpec.witness_shaped (enc := enc) (C := Tryd.checked) (os := os) (X := fun w _ => laidMetH Tryd.prog laidL w) false (World.doorLaid Tryd.prog 400 os) #[.int .u8 0, .int .i64 0, .int .i64 0] 8 rfl (World.shaped_of_RefB (by kernel_rfl) (by kernel_rfl)) (by kernel_rfl) (by kernel_rfl) (by kernel_rfl) (door_met os _))
    laidP (by kernel_rfl) rfl rfl Tryd.underlying4 ?_
  intro W base args ds p hval0 hA0 hlt hL
  have hval : ∀ (j : Nat) t v, Tryd.f3.params[j]? = some t → args[j]? = some v → Value.okWide Tryd.prog W .any base t v := hval0
  have hA : DataW.TrodAll enc Tryd.prog W 0 (fun _ => true) true Tryd.f3.params.toList args.toList ds p := hA0
  clear hval0 hA0
  rw [Tryd.params3] at hA hval
  obtain ⟨v0, v1, v2, d0, d1, d2, p0, p1, p2, rfl, rfl, rfl, h0, h1, h2⟩ := trodAll_three hA
  obtain ⟨k, rfl, rfl, rfl, wk⟩ := open_int Tryd.underlying5 (hval 0 5 v0 rfl rfl) h0
  obtain ⟨x, rfl, rfl, rfl, _⟩ := open_int Tryd.underlying3 (hval 1 3 v1 rfl rfl) h1
  obtain ⟨y, rfl, rfl, rfl, _⟩ := open_int Tryd.underlying3 (hval 2 3 v2 rfl rfl) h2
  exact ⟨⟨rfl, rfl, rfl⟩, portWays_walk k x y (u8_bounds wk).1 (u8_bounds wk).2 W (kinds_of_laid hL)⟩

theorem portWays_holds : Rows.PortWaysSaid :=
  OpenClaim.holds_of_wide 3 Tryd.f3 rfl rfl rfl rfl rfl rfl rfl ⟨rfl, rfl, rfl, rfl, rfl⟩ rfl rfl rfl rfl rfl (by kernel_rfl) Tryd.func3 (by kernel_rfl)
    (of_decide_eq_true (by kernel_rfl)) (by unfold Func.isWrapper; first | (rw [if_pos (by decide +kernel)]; kernel_rfl) | (rw [if_neg (of_decide_eq_false (by kernel_rfl))]; exact ⟨rfl, rfl⟩))
    (fun os started H enc _ => portWays_lifted os started H enc)

theorem portWays_card : Rows.PortWaysCardSaid :=
  Claim7.holds_tied_plain_at .later [] [.data, .data] true (true, "1c3da90c4511877a79ee48325b996746eebca747ad2bfc93711fd6b6987d6ac9") false
    portWays_holds (fun _ h => by cases h) (by kernel_rfl) (fun _ h => by cases h) portWays_row_tie rfl ⟨rfl, rfl⟩ (by kernel_rfl) rfl
    (fun f fn hf hfn => by
      obtain rfl : f = 3 := Option.some.inj ((show Tryd.prog.funcNamed "lockbar/lockbarlaw05.PortWays" = some 3 by kernel_rfl).symm.trans hf) |>.symm
      obtain rfl : fn = Tryd.f3 := (Option.some.inj (Tryd.func3.symm.trans hfn)).symm
      exact ⟨by kernel_rfl, fun j t ht => by
        rw [Tryd.params3] at ht
        have hm : t ∈ [5, 3, 3] := by simpa using Array.mem_of_getElem? ht
        have hall : ([5, 3, 3].all fun u => !Tryd.prog.wantsStandIn u) = true := by kernel_rfl
        exact (show Tryd.prog.wantsStandIn t = false by simpa using List.all_eq_true.1 hall t hm)⟩)
    (by kernel_rfl)
#print axioms portWays_card
end Go.Proofs.YtaajbhdmnbabhaaDoor
