/-
  The parameter of PointEnds, opened: a list of what a machine sees.
-/
import Derived.Test.YtaajbhdmnbabhaaWalks4
import Derived.Test.YtaajbhdmnbabhaaPars
namespace Go.Proofs.Ytaajbhdmnbabhaa
open Go.RowKit Go.WideShapes Go.ChangeShapes Go.ChangeAt Go.Deep Go.Joins

section
variable {H : Type} {enc : TypeId × Value → H} {P : Program} {w : World} {base : Nat} {spare : Nat → Bool} {held : Bool}

/-- An argument that is a slice of structs of one-cell fields: each element's cells and their readings. -/
theorem open_slice_fields {t e : TypeId} {fs : Array Field} {fuel : Nat} {cs : List Value} {x : DataW H × List MemPlace} (ht : P.underlying t = some (.slice e)) (he : P.underlying e = some (.struct fs))
    (hone : oneCellFields P fs = true) (hC : P.cellsOf e = fs.size) (h : DataW.trod enc P w base spare held fuel t cs = some x) :
    (cs = [.slice none 0 0] ∧ x = (.nil, [])) ∨
    ∃ (a : Addr) (len cap m : Nat) (D : Nat → DataW H) (Pl : Nat → List MemPlace), cs = [.slice (some a) len cap] ∧ base ≤ a.block ∧ len ≤ cap ∧ cap ≤ maxLen ∧ m = (if spare a.block then cap else len) ∧
      x = (.slice ((List.range len).map D) ((List.range (m - len)).map fun j => D (len + j)), MemPlace.row a (m * fs.size) ++ (List.range m).flatMap Pl) ∧
      ∀ i, i < m → ∃ (ys : List (DataW H × List MemPlace)) (n : Nat), D i = .agg (ys.map (·.1)) ∧ Pl i = ys.flatMap (·.2) ∧ ys.length = fs.size ∧
        ∀ (j : Nat) (f : Field), fs[j]? = some f → ∃ (v : Value) (y : DataW H × List MemPlace), w.cell? (a.add (i * fs.size + j)) = some v ∧ ys[j]? = some y ∧ DataW.trod enc P w base spare held n f.type [v] = some y := by
  rcases open_slice ht h with h0 | ⟨a, len, cap, m, n, D, Pl, hcs, hb, hl, hm, hmm, hx, hi⟩
  · exact .inl h0
  · refine .inr ⟨a, len, cap, m, D, Pl, hcs, hb, hl, hm, hmm, by rw [hC] at hx; exact hx, fun i him => ?_⟩
    obtain ⟨cs', hc, ht'⟩ := hi i him
    rw [hC] at hc
    obtain ⟨ys, n', hn', hy, hlen, hyl, hf⟩ := DataW.trod_struct he ht'
    obtain ⟨_, hcl, hat⟩ := World.cells?_some hc
    simp only [Prod.mk.injEq] at hy
    refine ⟨ys, n', hy.1, hy.2, hyl, fun j f hj => ?_⟩
    obtain ⟨ho, hk⟩ := hone_of hone j f hj
    have hjl : j < fs.size := (Array.getElem?_eq_some_iff.1 hj).1
    have hcell := hat j hjl
    have hv : cs'[j]? = some (cs'[j]'(by omega)) := List.getElem?_eq_getElem (by omega)
    have h1 := hf j f hj
    rw [ho, hk] at h1
    have hone' : (cs'.drop j).take 1 = [cs'[j]'(by omega)] := by
      rw [List.drop_eq_getElem_cons (by omega)]
      rfl
    rw [hone'] at h1
    have hys : ys[j]? = some (ys[j]'(by omega)) := List.getElem?_eq_getElem (by omega)
    refine ⟨_, _, ?_, hys, h1.trans hys⟩
    rw [← Go.Deep.add_add, hcell, hv]

theorem open_seens {r : Reach} {b0 : Nat} {t e : TypeId} {f0 f1 f2 : Field} {v : Value} {d : DataW H} {p : List MemPlace} (ht : P.underlying t = some (.slice e)) (he : P.underlying e = some (.struct #[f0, f1, f2]))
    (t0 : P.underlying f0.type = some (.int .i64)) (t1 : P.underlying f1.type = some .bool) (t2 : P.underlying f2.type = some .bool) (hone : oneCellFields P #[f0, f1, f2] = true) (hC : P.cellsOf e = 3)
    (hv : Value.okWide P w r b0 t v) (h : DataW.Trod enc P w base spare held t v d p) :
    ∃ a m c l, v = .slice a m c ∧ m ≤ 9223372036854775807 ∧ Seens w.heap.size w (.slice a m c) l := by
  obtain ⟨a0, l0, c0, rfl⟩ := okWide_slice ht hv
  obtain ⟨fuel, hf⟩ := h
  rcases open_slice_fields ht he hone hC hf with ⟨e, _⟩ | ⟨a, _, _, m, D, Pl, e, _, hlc, hcm, hm, _, hi⟩
  · cases e
    exact ⟨_, _, _, [], rfl, by omega, .inl ⟨_, _, rfl, rfl⟩⟩
  · cases e
    have hM : maxLen = 9223372036854775807 := rfl
    rw [hM] at hcm
    by_cases h0 : l0 = 0
    · subst h0
      exact ⟨_, _, _, [], rfl, by omega, .inl ⟨_, _, rfl, rfl⟩⟩
    · have hlm : l0 ≤ m := by rw [hm]; split <;> omega
      have key : ∀ i, i < m → ∃ x : Int × Bool × Bool, w.cell? (a.add (i * 3)) = some (.int .i64 x.1) ∧ w.cell? (a.add (i * 3 + 1)) = some (.bool x.2.1) ∧ w.cell? (a.add (i * 3 + 2)) = some (.bool x.2.2) := by
        intro i hlt
        obtain ⟨ys, n, _, _, _, hfld⟩ := hi i hlt
        obtain ⟨v0, y0, k0, _, g0⟩ := hfld 0 f0 rfl
        obtain ⟨v1, y1, k1, _, g1⟩ := hfld 1 f1 rfl
        obtain ⟨v2, y2, k2, _, g2⟩ := hfld 2 f2 rfl
        obtain ⟨x0, e0, _⟩ := DataW.trod_int t0 g0
        obtain ⟨x1, e1, _⟩ := DataW.trod_bool t1 g1
        obtain ⟨x2, e2, _⟩ := DataW.trod_bool t2 g2
        simp only [List.cons.injEq, and_true] at e0 e1 e2
        subst e0 e1 e2
        exact ⟨⟨x0, x1, x2⟩, k0, k1, k2⟩
      obtain ⟨x0, k0, _, _⟩ := key 0 (by omega)
      obtain ⟨b, off, spot⟩ := a
      have hspot : spot = none := by simpa [Addr.add] using World.cell?_spot k0
      subst hspot
      have hlen : ((List.range l0).map fun i => if h : i < m then (key i h).choose else (0, false, false)).length = l0 := by simp
      refine ⟨_, _, _, (List.range l0).map fun i => if h : i < m then (key i h).choose else (0, false, false), rfl, by omega, .inr ⟨b, off, c0, by rw [hlen], World.block_lt_of_cell? _ _ k0, by rw [hlen]; omega, fun j x hx => ?_⟩⟩
      have hj : j < l0 := by
        have := (List.getElem?_eq_some_iff.1 hx).1
        simpa using this
      have hjm : j < m := by omega
      rw [List.getElem?_map, List.getElem?_range hj] at hx
      simp only [Option.map_some, hjm, dif_pos, Option.some.injEq] at hx
      subst hx
      have := (key j hjm).choose_spec
      simpa only [Go.WideShapes.add_plain, Nat.add_assoc] using this
end
end Go.Proofs.Ytaajbhdmnbabhaa
