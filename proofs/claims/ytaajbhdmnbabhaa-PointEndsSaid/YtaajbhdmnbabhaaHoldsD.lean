/-
  The rows of the laws, out of their walks.
-/
import Derived.Test.YtaajbhdmnbabhaaRows
import Derived.Test.YtaajbhdmnbabhaaParsSeen
namespace Go.Proofs.Ytaajbhdmnbabhaa
open Go.RowKit Go.WideShapes Go.ChangeShapes Go.ChangeAt

theorem ownD : ownKnob Try.prog.godebug = none := by kernel_rfl
theorem laidD : laidOutB Try.prog = true := by kernel_rfl

set_option maxRecDepth 100000 in
theorem pointEnds_lifted (os : Os) (started : os.Started) (H : Type) (enc : TypeId × Value → H) :
    ReturnsInHanded {} Try.checked os 4 .any (Rows.pointEndsSpec.pre6 enc Try.prog Try.f4 Rows.pointEndsRow.domain false) (Rows.pointEndsSpec.post enc Try.prog Try.f4 false true false false) := by
  refine law_lifted (C := Try.checked) (tb := 4) ownD started (by kernel_rfl) Try.func4 (ChangeSpec.witness6 (enc := enc) (C := Try.checked) false ⟨#[], #[.int .i64 0, .int .i64 0, .slice none 0 0], []⟩ 8 (by kernel_rfl) (by kernel_rfl) (by kernel_rfl) (by kernel_rfl)) laidD (by kernel_rfl) rfl rfl Try.underlying4 ?_
  intro W base args ds p hval0 hA0 hlt
  have hval : ∀ (j : Nat) t v, Try.f4.params[j]? = some t → args[j]? = some v → Value.okWide Try.prog W .any base t v := hval0
  have hA : DataW.TrodAll enc Try.prog W 0 (fun _ => true) true Try.f4.params.toList args.toList ds p := hA0
  clear hval0 hA0
  rw [Try.params4] at hA hval
  obtain ⟨vs⟩ := args
  dsimp only at hA
  obtain ⟨v0, vs0, d0, ds0, p0, q0, rfl, rfl, rfl, h0, hA⟩ := trodAll_cons hA
  obtain ⟨v1, vs1, d1, ds1, p1, q1, rfl, rfl, rfl, h1, hA⟩ := trodAll_cons hA
  obtain ⟨v2, vs2, d2, ds2, p2, q2, rfl, rfl, rfl, h2, hA⟩ := trodAll_cons hA
  obtain ⟨rfl, rfl, rfl⟩ := trodAll_nil hA
  obtain ⟨x0, rfl, rfl, rfl, _⟩ := open_int Try.underlying3 (hval 0 3 v0 rfl rfl) h0
  obtain ⟨x1, rfl, rfl, rfl, _⟩ := open_int Try.underlying3 (hval 1 3 v1 rfl rfl) h1
  obtain ⟨a2, m2, c2, z2, rfl, hm2, hI2⟩ := open_seens Try.underlying35 Try.underlying37 Try.underlying3 Try.underlying4 Try.underlying4 (by kernel_rfl) (by kernel_rfl) (hval 2 35 v2 rfl rfl) h2
  exact ⟨⟨rfl, rfl, rfl⟩, ends_walk _ _ _ _ _ _ _ hm2 hI2⟩

theorem pointEnds_holds : Rows.PointEndsSaid :=
  OpenClaim.holds_of_wide 4 Try.f4 rfl rfl rfl rfl rfl rfl rfl ⟨rfl, rfl, rfl, rfl, rfl⟩ rfl rfl rfl rfl rfl (by kernel_rfl) Try.func4 (by kernel_rfl)
    (of_decide_eq_true (by kernel_rfl)) (by unfold Func.isWrapper; first | (rw [if_pos (by decide +kernel)]; kernel_rfl) | (rw [if_neg (of_decide_eq_false (by kernel_rfl))]; exact ⟨rfl, rfl⟩))
    (fun os started H enc _ => pointEnds_lifted os started H enc)
#print axioms pointEnds_holds

end Go.Proofs.Ytaajbhdmnbabhaa
