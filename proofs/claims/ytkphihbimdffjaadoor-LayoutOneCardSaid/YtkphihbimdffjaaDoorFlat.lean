/-
  A value of plain ints (through structs and arrays): each of its cells is an int of its kind, within its bounds.
-/
import Derived.Test.YtkphihbimdffjaaDoorLaw
import Derived.ProofKit
import Derived.LaidMore
import Derived.OpenShut
import Derived.Stop.Joined
namespace Go.Proofs.YtkphihbimdffjaaDoor
open Go.RowKit Go.WideShapes Go.ChangeShapes Go.ChangeAt

/-- The kind of the int that stands in cell o of a value of type t. -/
def kindAt (P : Program) : Nat → TypeId → Nat → Option IntKind
  | 0, _, _ => none
  | n + 1, t, o =>
    match P.underlying t with
    | some (.int k) => if o = 0 then some k else none
    | some (.struct fs) => fs.toList.findSome? fun f => if f.offset ≤ o ∧ o < f.offset + P.cellsOf f.type then kindAt P n f.type (o - f.offset) else none
    | some (.array m e) => if 0 < P.cellsOf e ∧ o / P.cellsOf e < m then kindAt P n e (o % P.cellsOf e) else none
    | _ => none

theorem kind_cell' {H : Type} {enc : TypeId × Value → H} {P : Program} {w : World} {base : Nat} {sp : Nat → Bool} {held : Bool} : ∀ (n : Nat) {fuel : Nat} {t : TypeId} {cs : List Value} {x : DataW H × List MemPlace} {o : Nat} {k : IntKind},
    DataW.trod enc P w base sp held fuel t cs = some x → kindAt P n t o = some k → ∃ z, cs[o]? = some (.int k z) ∧ (Lit.int k z).wf = true
  | 0, _, _, _, _, _, _, _, hl => by simp [kindAt] at hl
  | n + 1, fuel, t, cs, x, o, k, h, hl => by
    unfold kindAt at hl
    split at hl
    · rename_i k' hu
      obtain ⟨z, rfl, _, hw⟩ := DataW.trod_int hu h
      split at hl
      · rename_i e
        subst e
        cases hl
        exact ⟨z, rfl, hw⟩
      · cases hl
    · rename_i fs hu
      obtain ⟨xs, m, _, _, _, hlen, hf⟩ := DataW.trod_struct hu h
      obtain ⟨f, hmem, hy⟩ := List.exists_of_findSome?_eq_some hl
      split at hy
      · rename_i hr
        obtain ⟨i, hi⟩ := List.mem_iff_getElem?.1 hmem
        have hfi : fs[i]? = some f := by simpa using hi
        have h1 := hf i f hfi
        have hlt : i < xs.length := by rw [hlen]; exact (Array.getElem?_eq_some_iff.1 hfi).1
        rw [List.getElem?_eq_getElem hlt] at h1
        obtain ⟨z, h2, hw⟩ := kind_cell' n h1 hy
        refine ⟨z, ?_, hw⟩
        rw [List.getElem?_take_of_lt (by omega), List.getElem?_drop] at h2
        rwa [show f.offset + (o - f.offset) = o by omega] at h2
      · cases hy
    · rename_i m' e hu
      obtain ⟨xs, m, _, _, _, hlen, hf⟩ := DataW.trod_array hu h
      split at hl
      · rename_i hc
        have h1 := hf (o / P.cellsOf e) hc.2
        have hlt : o / P.cellsOf e < xs.length := by rw [hlen]; exact hc.2
        rw [List.getElem?_eq_getElem hlt] at h1
        obtain ⟨z, h2, hw⟩ := kind_cell' n h1 hl
        refine ⟨z, ?_, hw⟩
        have hm := Nat.mod_lt o hc.1
        rw [List.getElem?_take_of_lt hm, List.getElem?_drop] at h2
        rwa [show o / P.cellsOf e * P.cellsOf e + o % P.cellsOf e = o by rw [Nat.mul_comm]; exact Nat.div_add_mod o _] at h2
      · cases hl
    · cases hl

/-- All cells at once: the list of the kinds tells the list of the values. -/
theorem kinds_cells {H : Type} {enc : TypeId × Value → H} {P : Program} {w : World} {base : Nat} {sp : Nat → Bool} {held : Bool} {n fuel : Nat} {t : TypeId} {cs : List Value} {x : DataW H × List MemPlace} {ks : List IntKind}
    (h : DataW.trod enc P w base sp held fuel t cs = some x) (hk : (List.range ks.length).map (kindAt P n t) = ks.map some) (o : Nat) (k : IntKind) (ho : ks[o]? = some k) : ∃ z, cs[o]? = some (.int k z) ∧ (Lit.int k z).wf = true := by
  refine kind_cell' n h (o := o) ?_
  have hlt := (List.getElem?_eq_some_iff.1 ho).1
  have h1 := congrArg (fun l => l[o]?) hk
  simp only [List.getElem?_map, List.getElem?_range hlt, Option.map_some, ho, Option.some.injEq] at h1
  exact h1
end Go.Proofs.YtkphihbimdffjaaDoor
