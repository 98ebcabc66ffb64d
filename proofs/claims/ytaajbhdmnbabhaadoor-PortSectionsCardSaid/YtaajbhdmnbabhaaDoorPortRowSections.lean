/-
  The row and the card of PortSections: a section that may be has ports that may be, nothing where it has none, and classes from 0 to 3; one that has more is none.
  Conditions: port.kinds and port.none start as the program's text lays them (the tied card).
-/
import Derived.Test.YtaajbhdmnbabhaaDoorPortSections
import Derived.Test.YtaajbhdmnbabhaaDoorPortRow
import Derived.Test.YtaajbhdmnbabhaaDoorFlat
namespace Go.Proofs.YtaajbhdmnbabhaaDoor
open Go.RowKit Go.WideShapes Go.ChangeShapes Go.ChangeAt Go.WideMaps Go.WideElems Go.Joins Go.Deep

theorem open_section {H : Type} {enc : TypeId × Value → H} {w : World} {base : Nat} {spare : Nat → Bool} {held : Bool} {r : Reach} {b0 : Nat} {v : Value} {d : DataW H} {p : List MemPlace}
    (hv : Value.okWide Tryd.prog w r b0 41 v) (h : DataW.Trod enc Tryd.prog w base spare held 41 v d p) : ∃ k S P C, v = secV k S P C ∧ 0 ≤ k ∧ k ≤ 255 := by
  obtain ⟨cs, rfl, hsz⟩ := okWide_struct Tryd.underlying41 hv
  obtain ⟨l⟩ := cs
  obtain ⟨fuel, hf⟩ := h
  have hc := fun o k => kinds_cells (n := 6) (ks := [.u8, .i64, .i64, .i64, .i64, .i64, .i64, .i64, .i64, .i64, .i64]) hf (by kernel_rfl) o k
  match l, hsz.trans (show Tryd.prog.cellsOf 41 = 11 by kernel_rfl) with
  | [c0, c1, c2, c3, c4, c5, c6, c7, c8, c9, c10], _ =>
    obtain ⟨k, e0, wk⟩ := hc 0 _ rfl
    obtain ⟨z1, e1, _⟩ := hc 1 _ rfl
    obtain ⟨z2, e2, _⟩ := hc 2 _ rfl
    obtain ⟨z3, e3, _⟩ := hc 3 _ rfl
    obtain ⟨z4, e4, _⟩ := hc 4 _ rfl
    obtain ⟨z5, e5, _⟩ := hc 5 _ rfl
    obtain ⟨z6, e6, _⟩ := hc 6 _ rfl
    obtain ⟨z7, e7, _⟩ := hc 7 _ rfl
    obtain ⟨z8, e8, _⟩ := hc 8 _ rfl
    obtain ⟨z9, e9, _⟩ := hc 9 _ rfl
    obtain ⟨z10, e10, _⟩ := hc 10 _ rfl
    obtain rfl := Option.some.inj e0
    obtain rfl := Option.some.inj e1
    obtain rfl := Option.some.inj e2
    obtain rfl := Option.some.inj e3
    obtain rfl := Option.some.inj e4
    obtain rfl := Option.some.inj e5
    obtain rfl := Option.some.inj e6
    obtain rfl := Option.some.inj e7
    obtain rfl := Option.some.inj e8
    obtain rfl := Option.some.inj e9
    obtain rfl := Option.some.inj e10
    exact ⟨k, fun | 0 => z1 | 1 => z3 | 2 => z5 | _ => z7, fun | 0 => z2 | 1 => z4 | 2 => z6 | _ => z8, fun | 0 => z9 | _ => z10, rfl, u8_bounds wk⟩
theorem open_port {H : Type} {enc : TypeId × Value → H} {w : World} {base : Nat} {spare : Nat → Bool} {held : Bool} {r : Reach} {b0 : Nat} {v : Value} {d : DataW H} {p : List MemPlace}
    (hv : Value.okWide Tryd.prog w r b0 37 v) (h : DataW.Trod enc Tryd.prog w base spare held 37 v d p) : ∃ x y, v = .agg #[.int .i64 x, .int .i64 y] := by
  obtain ⟨cs, rfl, hsz⟩ := okWide_struct Tryd.underlying37 hv
  obtain ⟨l⟩ := cs
  obtain ⟨fuel, hf⟩ := h
  have hc := fun o k => kinds_cells (n := 6) (ks := [.i64, .i64]) hf (by kernel_rfl) o k
  match l, hsz.trans (show Tryd.prog.cellsOf 37 = 2 by kernel_rfl) with
  | [c0, c1], _ =>
    obtain ⟨z0, e0, _⟩ := hc 0 _ rfl
    obtain ⟨z1, e1, _⟩ := hc 1 _ rfl
    obtain rfl := Option.some.inj e0
    obtain rfl := Option.some.inj e1
    exact ⟨z0, z1, rfl⟩

set_option maxRecDepth 100000 in
theorem portSections_lifted (os : Os) (started : os.Started) (H : Type) (enc : TypeId × Value → H) :
    ReturnsInHanded {} Tryd.checked os 6 .any (fun w args => (Rows.portSectionsSpec.pre enc Tryd.prog Tryd.f6 [] false w args ∧ laidMetH Tryd.prog laidL w) ∧ sizedMet enc Tryd.prog Tryd.f6 (OpenSpec.ofChange Rows.portSectionsSpec) false w args)
      (Rows.portSectionsSpec.post enc Tryd.prog Tryd.f6 false true false false) := by
  refine law_lifted_laid (C := Tryd.checked) (tb := 4) ownP started (by kernel_rfl) Tryd.func6
    (ChangeSpec.witness_shaped (enc := enc) (C := Tryd.checked) (os := os) (X := fun w _ => laidMetH Tryd.prog laidL w) false (World.doorLaid Tryd.prog 400 os) #[.agg #[.int .u8 0, .int .i64 0, .int .i64 0, .int .i64 0, .int .i64 0, .int .i64 0, .int .i64 0, .int .i64 0, .int .i64 0, .int .i64 0, .int .i64 0], .agg #[.int .i64 0, .int .i64 0], .int .i64 0, .int .i64 0] 8 rfl (World.shaped_of_RefB (by kernel_rfl) (by kernel_rfl)) (by kernel_rfl) (by kernel_rfl) (by kernel_rfl) (door_met os _))
    laidP (by kernel_rfl) rfl rfl Tryd.underlying4 ?_
  intro W base args ds p hval0 hA0 hlt hL
  have hval : ∀ (j : Nat) t v, Tryd.f6.params[j]? = some t → args[j]? = some v → Value.okWide Tryd.prog W .any base t v := hval0
  have hA : DataW.TrodAll enc Tryd.prog W 0 (fun _ => true) true Tryd.f6.params.toList args.toList ds p := hA0
  clear hval0 hA0
  rw [Tryd.params6] at hA hval
  obtain ⟨vs⟩ := args
  dsimp only at hA
  obtain ⟨v0, vs0, d0, ds0, p0, q0, rfl, rfl, rfl, h0, hA⟩ := trodAll_cons hA
  obtain ⟨v1, vs1, d1, ds1, p1, q1, rfl, rfl, rfl, h1, hA⟩ := trodAll_cons hA
  obtain ⟨v2, vs2, d2, ds2, p2, q2, rfl, rfl, rfl, h2, hA⟩ := trodAll_cons hA
  obtain ⟨v3, vs3, d3, ds3, p3, q3, rfl, rfl, rfl, h3, hA⟩ := trodAll_cons hA
  obtain ⟨rfl, rfl, rfl⟩ := trodAll_nil hA
  obtain ⟨k, S, P, C, rfl, hk⟩ := open_section (hval 0 41 v0 rfl rfl) h0
  obtain ⟨x, y, rfl⟩ := open_port (hval 1 37 v1 rfl rfl) h1
  obtain ⟨c, rfl, rfl, rfl, _⟩ := open_int Tryd.underlying3 (hval 2 3 v2 rfl rfl) h2
  obtain ⟨a, rfl, rfl, rfl, _⟩ := open_int Tryd.underlying3 (hval 3 3 v3 rfl rfl) h3
  exact ⟨⟨rfl, rfl, rfl⟩, portSections_walk k S P C x y c a hk.1 hk.2 W (kinds_of_laid hL)⟩

theorem portSections_holds : Rows.PortSectionsSaid :=
  OpenClaim.holds_of_wide 6 Tryd.f6 rfl rfl rfl rfl rfl rfl rfl ⟨rfl, rfl, rfl, rfl, rfl⟩ rfl rfl rfl rfl rfl (by kernel_rfl) Tryd.func6 (by kernel_rfl)
    (of_decide_eq_true (by kernel_rfl)) (by unfold Func.isWrapper; first | (rw [if_pos (by decide +kernel)]; kernel_rfl) | (rw [if_neg (of_decide_eq_false (by kernel_rfl))]; exact ⟨rfl, rfl⟩))
    (fun os started H enc _ => portSections_lifted os started H enc)

theorem portSections_card : Rows.PortSectionsCardSaid :=
  Claim7.holds_tied_plain_at .later [] [.data, .data] true (true, "1c3da90c4511877a79ee48325b996746eebca747ad2bfc93711fd6b6987d6ac9") false
    portSections_holds (fun _ h => by cases h) (by kernel_rfl) (fun _ h => by cases h) portSections_row_tie rfl ⟨rfl, rfl⟩ (by kernel_rfl) rfl
    (fun f fn hf hfn => by
      obtain rfl : f = 6 := Option.some.inj ((show Tryd.prog.funcNamed "lockbar/lockbarlaw05.PortSections" = some 6 by kernel_rfl).symm.trans hf) |>.symm
      obtain rfl : fn = Tryd.f6 := (Option.some.inj (Tryd.func6.symm.trans hfn)).symm
      exact ⟨by kernel_rfl, fun j t ht => by
        rw [Tryd.params6] at ht
        have hm : t ∈ [41, 37, 3, 3] := by simpa using Array.mem_of_getElem? ht
        have hall : ([41, 37, 3, 3].all fun u => !Tryd.prog.wantsStandIn u) = true := by kernel_rfl
        exact (show Tryd.prog.wantsStandIn t = false by simpa using List.all_eq_true.1 hall t hm)⟩)
    (by kernel_rfl)
#print axioms portSections_card
end Go.Proofs.YtaajbhdmnbabhaaDoor
