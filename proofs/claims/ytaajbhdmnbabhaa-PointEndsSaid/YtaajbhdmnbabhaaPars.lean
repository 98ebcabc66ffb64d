/-
  The parameters of the point laws, opened: a machine, a list of ints.
-/
import Derived.Test.YtaajbhdmnbabhaaBits
import Derived.Test.YtaajbhdmnbabhaaLaw
import Derived.ProofKit
import Derived.Lib.SmallJoins
import Derived.Deep.Slices
import Derived.Deep.Fields
namespace Go.Proofs.Ytaajbhdmnbabhaa
open Go.RowKit Go.WideShapes Go.ChangeShapes Go.ChangeAt Go.Deep Go.Joins

section
variable {H : Type} {enc : TypeId × Value → H} {P : Program} {w : World} {base : Nat} {spare : Nat → Bool} {held : Bool}

theorem open_mach {r : Reach} {b0 : Nat} {t : TypeId} {f0 f1 f2 : Field} {v : Value} {d : DataW H} {p : List MemPlace} (hs : P.underlying t = some (.struct #[f0, f1, f2]))
    (t0 : P.underlying f0.type = some (.int .i64)) (t1 : P.underlying f1.type = some (.int .i64)) (t2 : P.underlying f2.type = some .bool) (hone : oneCellFields P #[f0, f1, f2] = true) (hC : P.cellsOf t = 3)
    (hv : Value.okWide P w r b0 t v) (h : DataW.Trod enc P w base spare held t v d p) : ∃ x q f, v = mv x q f := by
  obtain ⟨v0, v1, v2, y0, y1, y2, n, rfl, _, _, h0, h1, h2⟩ := open_agg3 hs hone hC hv h
  obtain ⟨a, e0, _⟩ := DataW.trod_int t0 h0
  obtain ⟨b, e1, _⟩ := DataW.trod_int t1 h1
  obtain ⟨c, e2, _⟩ := DataW.trod_bool t2 h2
  simp only [List.cons.injEq, and_true] at e0 e1 e2
  subst e0 e1 e2
  exact ⟨a, b, c, rfl⟩

theorem open_zs {r : Reach} {b0 : Nat} {t e : TypeId} {v : Value} {d : DataW H} {p : List MemPlace} (ht : P.underlying t = some (.slice e)) (he : P.underlying e = some (.int .i64)) (hc : P.cellsOf e = 1)
    (hv : Value.okWide P w r b0 t v) (h : DataW.Trod enc P w base spare held t v d p) :
    ∃ a m c zs, v = .slice a m c ∧ m ≤ 9223372036854775807 ∧ Ints w.heap.size w (.slice a m c) zs := by
  obtain ⟨a0, l0, c0, rfl⟩ := okWide_slice ht hv
  obtain ⟨fuel, hf⟩ := h
  rcases open_ints ht he hc hf with ⟨e, _⟩ | ⟨a, _, _, zs, e, _, hlc, hcm, hzl, _, hcell, _⟩
  · cases e
    exact ⟨_, _, _, [], rfl, by omega, .inl ⟨_, _, rfl, rfl, by omega⟩⟩
  · cases e
    have hM : maxLen = 9223372036854775807 := rfl
    rw [hM] at hcm
    by_cases h0 : l0 = 0
    · subst h0
      exact ⟨_, _, _, [], rfl, by omega, .inl ⟨_, _, rfl, rfl, hcm⟩⟩
    · have hlz : l0 ≤ zs.length := by rw [hzl]; split <;> omega
      obtain ⟨b, off, rfl, hc'⟩ := ints_at hcell (by omega)
      have htl : (zs.take l0).length = l0 := by rw [List.length_take]; omega
      refine ⟨_, _, _, zs.take l0, rfl, by omega, .inr ⟨b, off, c0, by rw [htl], World.block_lt_of_cell? _ _ (hc' 0 (by omega)), by omega, hcm, fun j hj => ?_⟩⟩
      rw [htl] at hj
      rw [hc' j (by omega), List.getD_eq_getElem?_getD, List.getElem?_take_of_lt hj]

end
end Go.Proofs.Ytaajbhdmnbabhaa
