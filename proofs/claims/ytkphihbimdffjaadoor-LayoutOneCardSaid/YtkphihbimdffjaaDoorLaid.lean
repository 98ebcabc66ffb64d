/-
  A listed variable of plain data (ints, bools, structs, arrays): each of its cells, by computing; a law's row, lifted, where variables are listed.
-/
import Derived.Test.YtkphihbimdffjaaDoorLaw
import Derived.ProofKit
import Derived.LaidMore
import Derived.OpenShut
import Derived.Stop.Joined
namespace Go.Proofs.YtkphihbimdffjaaDoor
open Go.RowKit Go.WideShapes Go.ChangeShapes Go.ChangeAt

/-- The value that stands in cell o of a datum of type t. -/
def leaf {H : Type} (P : Program) : Nat → TypeId → DataW H → Nat → Option Value
  | 0, _, _, _ => none
  | n + 1, t, d, o =>
    match P.underlying t, d with
    | some .bool, .lit (.bool b) => if o = 0 then some (.bool b) else none
    | some (.int _), .lit (.int k m) => if o = 0 then some (.int k m) else none
    | some (.struct fs), .agg ds => (fs.toList.zip ds).findSome? fun x => if x.1.offset ≤ o ∧ o < x.1.offset + P.cellsOf x.1.type then leaf P n x.1.type x.2 (o - x.1.offset) else none
    | some (.array _ e), .agg ds => if 0 < P.cellsOf e then (ds[o / P.cellsOf e]?).bind fun x => leaf P n e x (o % P.cellsOf e) else none
    | _, _ => none

theorem leaf_cell {H : Type} {enc : TypeId × Value → H} {P : Program} {w : World} {base : Nat} {sp : Nat → Bool} {held : Bool} : ∀ (n : Nat) {fuel : Nat} {t : TypeId} {cs : List Value} {d : DataW H} {p : List MemPlace} {o : Nat} {v : Value},
    DataW.trod enc P w base sp held fuel t cs = some (d, p) → leaf P n t d o = some v → cs[o]? = some v
  | 0, _, _, _, _, _, _, _, _, hl => by simp [leaf] at hl
  | n + 1, fuel, t, cs, d, p, o, v, h, hl => by
    unfold leaf at hl
    split at hl
    · rename_i hu
      obtain ⟨b, rfl, hx⟩ := DataW.trod_bool hu h
      cases hx
      split at hl
      · rename_i e; subst e; simpa using hl
      · cases hl
    · rename_i hu
      obtain ⟨b, rfl, hx, _⟩ := DataW.trod_int hu h
      cases hx
      split at hl
      · rename_i e; subst e; simpa using hl
      · cases hl
    · rename_i fs ds hu
      obtain ⟨xs, m, _, hx, _, hlen, hf⟩ := DataW.trod_struct hu h
      simp only [Prod.mk.injEq, DataW.agg.injEq] at hx
      obtain ⟨⟨f, y⟩, hmem, hy⟩ := List.exists_of_findSome?_eq_some hl
      split at hy
      · rename_i hr
        obtain ⟨i, hi⟩ := List.mem_iff_getElem?.1 hmem
        rw [List.getElem?_zip_eq_some] at hi
        obtain ⟨hi1, hi2⟩ := hi
        have hfi : fs[i]? = some f := by simpa using hi1
        have h1 := hf i f hfi
        rw [hx.1, List.getElem?_map] at hi2
        cases hxi : xs[i]? with
        | none => simp [hxi] at hi2
        | some z =>
          rw [hxi] at hi2 h1
          simp only [Option.map_some, Option.some.injEq] at hi2
          subst hi2
          dsimp only at hr hy
          have h2 := leaf_cell n (d := z.1) (p := z.2) h1 hy
          rw [List.getElem?_take_of_lt (by omega), List.getElem?_drop] at h2
          rwa [show f.offset + (o - f.offset) = o by omega] at h2
      · cases hy
    · rename_i m' e ds hu
      obtain ⟨xs, m, _, hx, _, hlen, hf⟩ := DataW.trod_array hu h
      simp only [Prod.mk.injEq, DataW.agg.injEq] at hx
      split at hl
      · rename_i hc
        simp only [Option.bind_eq_some_iff] at hl
        obtain ⟨y, hy1, hy2⟩ := hl
        rw [hx.1, List.getElem?_map] at hy1
        cases hxi : xs[o / P.cellsOf e]? with
        | none => simp [hxi] at hy1
        | some z =>
          rw [hxi] at hy1
          simp only [Option.map_some, Option.some.injEq] at hy1
          subst hy1
          have h1 := hf (o / P.cellsOf e) (by rw [← hlen]; exact (List.getElem?_eq_some_iff.1 hxi).1)
          rw [hxi] at h1
          have h2 := leaf_cell n (d := z.1) (p := z.2) h1 hy2
          have hm := Nat.mod_lt o hc
          rw [List.getElem?_take_of_lt hm, List.getElem?_drop] at h2
          rwa [show o / P.cellsOf e * P.cellsOf e + o % P.cellsOf e = o by rw [Nat.mul_comm]; exact Nat.div_add_mod o _] at h2
      · cases hl
    · cases hl

/-- **A LAW's ROW, LIFTED, WHERE VARIABLES ARE LISTED.** -/
theorem law_lifted_laid {C : Checked} {os : Os} {f : FuncId} {fn : Func} {s : ChangeSpec} {conds : List PathCond} {tb : TypeId} {H : Type} {enc : TypeId × Value → H} {laid : List (String × DataW Unit)}
    (own : ownKnob C.prog.godebug = none) (started : os.Started) (noInit : C.prog.inits.idxOf? f = none) (hfn : C.prog.funcs[f]? = some fn)
    (witness : ∃ (w : World) (tape : Tape) (i : Input), w.os = os ∧ (w.forCall tape i).Shaped C.prog ∧ i.vars = [] ∧ Input.okWide C.prog (w.forCall tape i) .any w.heap.size f i ∧
      ((s.pre enc C.prog fn conds false (w.forCall tape i).memory i.args ∧ laidMetH C.prog laid (w.forCall tape i).memory) ∧ sizedMet enc C.prog fn (OpenSpec.ofChange s) false (w.forCall tape i).memory i.args) ∧ Assume.holds {} C.prog (lone (Frame.enter C.prog f i.args .normal) [] (w.forCall tape i)))
    (hl : laidOutB C.prog = true) (hts : fn.params.toList.all (fun t => C.prog.readableRec t && decide (t < C.prog.types.size)) = true) (hv : s.vars = []) (hr : fn.resultTypes = #[tb]) (hbool : C.prog.underlying tb = some .bool)
    (walk : ∀ (W : World) (base : Nat) (args : Array Value) (ds : List (DataW H)) (p : List MemPlace),
      (∀ (j : Nat) t v, fn.params[j]? = some t → args[j]? = some v → Value.okWide C.prog W .any base t v) →
      DataW.TrodAll enc C.prog W 0 (fun _ => true) true fn.params.toList args.toList ds p → (∀ x ∈ p, x.block < W.heap.size) → laidMetH C.prog laid W →
      ((s.fn H ds).results = [.lit (.bool true)] ∧ (s.fn H ds).args = ds ∧ (s.fn H ds).vars = []) ∧ Calls C.prog f args W fun e w' => e = .returned (.bool true) ∧ Below W.heap.size W w') :
    ReturnsInHanded {} C os f .any (fun w args => (s.pre enc C.prog fn conds false w args ∧ laidMetH C.prog laid w) ∧ sizedMet enc C.prog fn (OpenSpec.ofChange s) false w args) (s.post enc C.prog fn false true false false) := by
  refine returnsInHanded_of_change_and (X := fun w _ => laidMetH C.prog laid w) (fun _ _ _ hh h => h.of_heap hh) own started noInit hfn witness ?_
  intro W base args ds gs before hval hW _ _ hL _
  have hW' := hW
  obtain ⟨p, q, hA, hV, hp, hfz, hnd⟩ := hW
  have hlt : ∀ x ∈ p, x.block < W.heap.size := fun x hx => hW'.lt x (by rw [hp]; simp [hx])
  obtain ⟨hsp, hc⟩ := walk W base args ds p hval hA hlt hL
  refine hc.mono fun e W' ⟨he, hb⟩ => ⟨_, he, law_post hl (fun t ht => ?_) hv hr hbool hsp hW' hb⟩
  have := List.all_eq_true.1 hts t ht
  simpa using this
end Go.Proofs.YtkphihbimdffjaaDoor
