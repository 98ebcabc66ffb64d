/-
  The step from a law's walk to its row: whatever the parameters, they read again as they read before, since nothing that was there has turned; the result is true.
-/
import Derived.Test.YtpnnbihofoomeaaDoorTie
import Derived.Test.YtpnnbihofoomeaaDoorCards
import Derived.Test.YtpnnbihofoomeaaDoorM7
import Derived.ProofKit
import Derived.ChangeSame
import Derived.Carry
import Derived.LaidMore
import Derived.OpenShut
import Derived.Stop.Joined
import Derived.Deep.Slices
import Derived.Lib.SmallJoins
import Derived.SevenTiedAt

namespace Go.Proofs.YtpnnbihofoomeaaDoor
open Go.RowKit Go.WideShapes Go.ChangeShapes Go.ChangeAt

section
variable {H : Type} {enc : TypeId × Value → H} {P : Program}
/-- All arguments read again. -/
theorem trodAll_again (hl : laidOutB P = true) {W W' : World} (hb : Below W.heap.size W W') {sp : Nat → Bool} : ∀ {ts : List TypeId} {vs : List Value} {ds : List (DataW H)} {ps : List MemPlace}, (∀ t ∈ ts, P.readableRec t = true ∧ t < P.types.size) →
    DataW.TrodAll enc P W 0 (fun _ => true) true ts vs ds ps → (∀ p ∈ ps, p.block < W.heap.size) → (∀ p ∈ ps, sp p.block = true) → DataW.TrodAll enc P W' 0 sp true ts vs ds ps
  | [], _, _, _, _, h, _, _ => by
    obtain ⟨rfl, rfl, rfl⟩ := trodAll_nil h
    exact trodAll_mk0
  | t :: ts, _, _, _, ht, h, hlt, hs => by
    obtain ⟨v, vs, d, ds, p, q, rfl, rfl, rfl, h1, h2⟩ := trodAll_cons h
    have a := ht t (by simp)
    exact ⟨p, q, WideElems.Trod_stays hl a.1 a.2 h1 (fun x hx => hb.same (hlt x (by simp [hx]))) (fun x hx => hs x (by simp [hx])),
      trodAll_again hl hb (fun t' h' => ht t' (by simp [h'])) h2 (fun x hx => hlt x (by simp [hx])) (fun x hx => hs x (by simp [hx])), rfl⟩

/-- What a law's row asks behind the call. -/
theorem law_post {f : Func} {s : ChangeSpec} {W W' : World} {args : Array Value} {ds gs : List (DataW H)} {before : List MemPlace} {tb : TypeId}
    (hl : laidOutB P = true) (hts : ∀ t ∈ f.params.toList, P.readableRec t = true ∧ t < P.types.size) (hv : s.vars = []) (hr : f.resultTypes = #[tb]) (hbool : P.underlying tb = some .bool)
    (hsp : (s.fn H ds).results = [.lit (.bool true)] ∧ (s.fn H ds).args = ds ∧ (s.fn H ds).vars = [])
    (hW : DataW.Whole enc P f.params.toList s.vars false W args.toList ds gs before) (hb : Below W.heap.size W W') :
    s.post enc P f false true false false W args (.bool true) W' := by
  have hlt : ∀ p ∈ before, p.block < W.heap.size := fun p hp => hW.lt p hp
  have hW0 := hW
  obtain ⟨p, q, hA, hV, rfl, hfz, hnd⟩ := hW
  rw [hv] at hV
  obtain ⟨rfl, rfl⟩ := trodVars_none hV
  simp only [List.append_nil] at hlt
  have hA2 : ∀ sp : Nat → Bool, (∀ x ∈ p, sp x.block = true) → DataW.TrodAll enc P W' 0 sp true f.params.toList args.toList ds p := fun sp hs => trodAll_again hl hb hts hA hlt hs
  refine ⟨ds, [], p ++ [], [], p, [], hW0, ?_, ?_, ?_, World.keptBut_mono (fun x hx => ⟨hx, ?_⟩) (hb.frame (· ∈ p ++ [])), fun h => by cases h⟩
  · rw [hr, List.append_nil, hsp.1]
    exact trodAll_mk1 (shut_bool hbool _)
  · rw [List.append_nil, hsp.2.1]
    exact hA2 _ (fun x hx => by simpa using hlt x hx)
  · rw [List.append_nil, hsp.2.2, hv]
    rfl
  · simpa using hx
end

/-- **A LAW's ROW, LIFTED, OUT OF ITS WALK.** -/
theorem law_lifted {C : Checked} {os : Os} {f : FuncId} {fn : Func} {s : ChangeSpec} {conds : List PathCond} {tb : TypeId} {H : Type} {enc : TypeId × Value → H}
    (own : ownKnob C.prog.godebug = none) (started : os.Started) (noInit : C.prog.inits.idxOf? f = none) (hfn : C.prog.funcs[f]? = some fn)
    (witness : ∃ (w : World) (tape : Tape) (i : Input), w.os = os ∧ (w.forCall tape i).Shaped C.prog ∧ i.vars = [] ∧ Input.okWide C.prog (w.forCall tape i) .any w.heap.size f i ∧
      s.pre6 enc C.prog fn conds false (w.forCall tape i).memory i.args ∧ Assume.holds {} C.prog (lone (Frame.enter C.prog f i.args .normal) [] (w.forCall tape i)))
    (hl : laidOutB C.prog = true) (hts : fn.params.toList.all (fun t => C.prog.readableRec t && decide (t < C.prog.types.size)) = true) (hv : s.vars = []) (hr : fn.resultTypes = #[tb]) (hbool : C.prog.underlying tb = some .bool)
    (walk : ∀ (W : World) (base : Nat) (args : Array Value) (ds : List (DataW H)) (p : List MemPlace),
      (∀ (j : Nat) t v, fn.params[j]? = some t → args[j]? = some v → Value.okWide C.prog W .any base t v) →
      DataW.TrodAll enc C.prog W 0 (fun _ => true) true fn.params.toList args.toList ds p → (∀ x ∈ p, x.block < W.heap.size) →
      ((s.fn H ds).results = [.lit (.bool true)] ∧ (s.fn H ds).args = ds ∧ (s.fn H ds).vars = []) ∧ Calls C.prog f args W fun e w' => e = .returned (.bool true) ∧ Below W.heap.size W w') :
    ReturnsInHanded {} C os f .any (s.pre6 enc C.prog fn conds false) (s.post enc C.prog fn false true false false) := by
  refine returnsInHanded_of_change own started noInit hfn witness ?_
  intro W base args ds gs before hval hW _ _
  have hW' := hW
  obtain ⟨p, q, hA, hV, hp, hfz, hnd⟩ := hW
  have hlt : ∀ x ∈ p, x.block < W.heap.size := fun x hx => hW'.lt x (by rw [hp]; simp [hx])
  obtain ⟨hsp, hc⟩ := walk W base args ds p hval hA hlt
  refine hc.mono fun e W' ⟨he, hb⟩ => ⟨_, he, law_post hl (fun t ht => ?_) hv hr hbool hsp hW' hb⟩
  have := List.all_eq_true.1 hts t ht
  simpa using this
end Go.Proofs.YtpnnbihofoomeaaDoor

/-
  A value of plain ints (through structs and arrays): each of its cells is an int of its kind, within its bounds.
-/
namespace Go.Proofs.YtpnnbihofoomeaaDoor
open Go.RowKit Go.WideShapes Go.ChangeShapes Go.ChangeAt

/-- The kind of the int that stands in cell o of a value of type t. -/
def kindAt (P : Program) : Nat → TypeId → Nat → Option IntKind
  | 0, _, _ => none
  | n + 1, t, o =>
    match P.underlying t with
    | some (.int k) => if o = 0 then some k else none
    | some (.struct fs) => fs.toList.findSome? fun f => if f.offset ≤ o ∧ o < f.offset + P.cellsOf f.type then kindAt P n f.type (o - f.offset) else none
    | some (.array m e) => if 0 < P.cellsOf e ∧ o / P.cellsOf e < m then kindAt P n e (o % P.cellsOf e) else none
    | _ => none

theorem kind_cell' {H : Type} {enc : TypeId × Value → H} {P : Program} {w : World} {base : Nat} {sp : Nat → Bool} {held : Bool} : ∀ (n : Nat) {fuel : Nat} {t : TypeId} {cs : List Value} {x : DataW H × List MemPlace} {o : Nat} {k : IntKind},
    DataW.trod enc P w base sp held fuel t cs = some x → kindAt P n t o = some k → ∃ z, cs[o]? = some (.int k z) ∧ (Lit.int k z).wf = true
  | 0, _, _, _, _, _, _, _, hl => by simp [kindAt] at hl
  | n + 1, fuel, t, cs, x, o, k, h, hl => by
    unfold kindAt at hl
    split at hl
    · rename_i k' hu
      obtain ⟨z, rfl, _, hw⟩ := DataW.trod_int hu h
      split at hl
      · rename_i e
        subst e
        cases hl
        exact ⟨z, rfl, hw⟩
      · cases hl
    · rename_i fs hu
      obtain ⟨xs, m, _, _, _, hlen, hf⟩ := DataW.trod_struct hu h
      obtain ⟨f, hmem, hy⟩ := List.exists_of_findSome?_eq_some hl
      split at hy
      · rename_i hr
        obtain ⟨i, hi⟩ := List.mem_iff_getElem?.1 hmem
        have hfi : fs[i]? = some f := by simpa using hi
        have h1 := hf i f hfi
        have hlt : i < xs.length := by rw [hlen]; exact (Array.getElem?_eq_some_iff.1 hfi).1
        rw [List.getElem?_eq_getElem hlt] at h1
        obtain ⟨z, h2, hw⟩ := kind_cell' n h1 hy
        refine ⟨z, ?_, hw⟩
        rw [List.getElem?_take_of_lt (by omega), List.getElem?_drop] at h2
        rwa [show f.offset + (o - f.offset) = o by omega] at h2
      · cases hy
    · rename_i m' e hu
      obtain ⟨xs, m, _, _, _, hlen, hf⟩ := DataW.trod_array hu h
      split at hl
      · rename_i hc
        have h1 := hf (o / P.cellsOf e) hc.2
        have hlt : o / P.cellsOf e < xs.length := by rw [hlen]; exact hc.2
        rw [List.getElem?_eq_getElem hlt] at h1
        obtain ⟨z, h2, hw⟩ := kind_cell' n h1 hl
        refine ⟨z, ?_, hw⟩
        have hm := Nat.mod_lt o hc.1
        rw [List.getElem?_take_of_lt hm, List.getElem?_drop] at h2
        rwa [show o / P.cellsOf e * P.cellsOf e + o % P.cellsOf e = o by rw [Nat.mul_comm]; exact Nat.div_add_mod o _] at h2
      · cases hl
    · cases hl

/-- All cells at once: the list of the kinds tells the list of the values. -/
theorem kinds_cells {H : Type} {enc : TypeId × Value → H} {P : Program} {w : World} {base : Nat} {sp : Nat → Bool} {held : Bool} {n fuel : Nat} {t : TypeId} {cs : List Value} {x : DataW H × List MemPlace} {ks : List IntKind}
    (h : DataW.trod enc P w base sp held fuel t cs = some x) (hk : (List.range ks.length).map (kindAt P n t) = ks.map some) (o : Nat) (k : IntKind) (ho : ks[o]? = some k) : ∃ z, cs[o]? = some (.int k z) ∧ (Lit.int k z).wf = true := by
  refine kind_cell' n h (o := o) ?_
  have hlt := (List.getElem?_eq_some_iff.1 ho).1
  have h1 := congrArg (fun l => l[o]?) hk
  simp only [List.getElem?_map, List.getElem?_range hlt, Option.map_some, ho, Option.some.injEq] at h1
  exact h1
end Go.Proofs.YtpnnbihofoomeaaDoor

/-
  A listed variable of plain data (ints, bools, structs, arrays): each of its cells, by computing; a law's row, lifted, where variables are listed.
-/
namespace Go.Proofs.YtpnnbihofoomeaaDoor
open Go.RowKit Go.WideShapes Go.ChangeShapes Go.ChangeAt

/-- The value that stands in cell o of a datum of type t. -/
def leaf {H : Type} (P : Program) : Nat → TypeId → DataW H → Nat → Option Value
  | 0, _, _, _ => none
  | n + 1, t, d, o =>
    match P.underlying t, d with
    | some .bool, .lit (.bool b) => if o = 0 then some (.bool b) else none
    | some (.int _), .lit (.int k m) => if o = 0 then some (.int k m) else none
    | some (.struct fs), .agg ds => (fs.toList.zip ds).findSome? fun x => if x.1.offset ≤ o ∧ o < x.1.offset + P.cellsOf x.1.type then leaf P n x.1.type x.2 (o - x.1.offset) else none
    | some (.array _ e), .agg ds => if 0 < P.cellsOf e then (ds[o / P.cellsOf e]?).bind fun x => leaf P n e x (o % P.cellsOf e) else none
    | _, _ => none

theorem leaf_cell {H : Type} {enc : TypeId × Value → H} {P : Program} {w : World} {base : Nat} {sp : Nat → Bool} {held : Bool} : ∀ (n : Nat) {fuel : Nat} {t : TypeId} {cs : List Value} {d : DataW H} {p : List MemPlace} {o : Nat} {v : Value},
    DataW.trod enc P w base sp held fuel t cs = some (d, p) → leaf P n t d o = some v → cs[o]? = some v
  | 0, _, _, _, _, _, _, _, _, hl => by simp [leaf] at hl
  | n + 1, fuel, t, cs, d, p, o, v, h, hl => by
    unfold leaf at hl
    split at hl
    · rename_i hu
      obtain ⟨b, rfl, hx⟩ := DataW.trod_bool hu h
      cases hx
      split at hl
      · rename_i e; subst e; simpa using hl
      · cases hl
    · rename_i hu
      obtain ⟨b, rfl, hx, _⟩ := DataW.trod_int hu h
      cases hx
      split at hl
      · rename_i e; subst e; simpa using hl
      · cases hl
    · rename_i fs ds hu
      obtain ⟨xs, m, _, hx, _, hlen, hf⟩ := DataW.trod_struct hu h
      simp only [Prod.mk.injEq, DataW.agg.injEq] at hx
      obtain ⟨⟨f, y⟩, hmem, hy⟩ := List.exists_of_findSome?_eq_some hl
      split at hy
      · rename_i hr
        obtain ⟨i, hi⟩ := List.mem_iff_getElem?.1 hmem
        rw [List.getElem?_zip_eq_some] at hi
        obtain ⟨hi1, hi2⟩ := hi
        have hfi : fs[i]? = some f := by simpa using hi1
        have h1 := hf i f hfi
        rw [hx.1, List.getElem?_map] at hi2
        cases hxi : xs[i]? with
        | none => simp [hxi] at hi2
        | some z =>
          rw [hxi] at hi2 h1
          simp only [Option.map_some, Option.some.injEq] at hi2
          subst hi2
          dsimp only at hr hy
          have h2 := leaf_cell n (d := z.1) (p := z.2) h1 hy
          rw [List.getElem?_take_of_lt (by omega), List.getElem?_drop] at h2
          rwa [show f.offset + (o - f.offset) = o by omega] at h2
      · cases hy
    · rename_i m' e ds hu
      obtain ⟨xs, m, _, hx, _, hlen, hf⟩ := DataW.trod_array hu h
      simp only [Prod.mk.injEq, DataW.agg.injEq] at hx
      split at hl
      · rename_i hc
        simp only [Option.bind_eq_some_iff] at hl
        obtain ⟨y, hy1, hy2⟩ := hl
        rw [hx.1, List.getElem?_map] at hy1
        cases hxi : xs[o / P.cellsOf e]? with
        | none => simp [hxi] at hy1
        | some z =>
          rw [hxi] at hy1
          simp only [Option.map_some, Option.some.injEq] at hy1
          subst hy1
          have h1 := hf (o / P.cellsOf e) (by rw [← hlen]; exact (List.getElem?_eq_some_iff.1 hxi).1)
          rw [hxi] at h1
          have h2 := leaf_cell n (d := z.1) (p := z.2) h1 hy2
          have hm := Nat.mod_lt o hc
          rw [List.getElem?_take_of_lt hm, List.getElem?_drop] at h2
          rwa [show o / P.cellsOf e * P.cellsOf e + o % P.cellsOf e = o by rw [Nat.mul_comm]; exact Nat.div_add_mod o _] at h2
      · cases hl
    · cases hl

/-- **A LAW's ROW, LIFTED, WHERE VARIABLES ARE LISTED.** -/
theorem law_lifted_laid {C : Checked} {os : Os} {f : FuncId} {fn : Func} {s : ChangeSpec} {conds : List PathCond} {tb : TypeId} {H : Type} {enc : TypeId × Value → H} {laid : List (String × DataW Unit)}
    (own : ownKnob C.prog.godebug = none) (started : os.Started) (noInit : C.prog.inits.idxOf? f = none) (hfn : C.prog.funcs[f]? = some fn)
    (witness : ∃ (w : World) (tape : Tape) (i : Input), w.os = os ∧ (w.forCall tape i).Shaped C.prog ∧ i.vars = [] ∧ Input.okWide C.prog (w.forCall tape i) .any w.heap.size f i ∧
      ((s.pre enc C.prog fn conds false (w.forCall tape i).memory i.args ∧ laidMetH C.prog laid (w.forCall tape i).memory) ∧ sizedMet enc C.prog fn (OpenSpec.ofChange s) false (w.forCall tape i).memory i.args) ∧ Assume.holds {} C.prog (lone (Frame.enter C.prog f i.args .normal) [] (w.forCall tape i)))
    (hl : laidOutB C.prog = true) (hts : fn.params.toList.all (fun t => C.prog.readableRec t && decide (t < C.prog.types.size)) = true) (hv : s.vars = []) (hr : fn.resultTypes = #[tb]) (hbool : C.prog.underlying tb = some .bool)
    (walk : ∀ (W : World) (base : Nat) (args : Array Value) (ds : List (DataW H)) (p : List MemPlace),
      (∀ (j : Nat) t v, fn.params[j]? = some t → args[j]? = some v → Value.okWide C.prog W .any base t v) →
      DataW.TrodAll enc C.prog W 0 (fun _ => true) true fn.params.toList args.toList ds p → (∀ x ∈ p, x.block < W.heap.size) → laidMetH C.prog laid W →
      ((s.fn H ds).results = [.lit (.bool true)] ∧ (s.fn H ds).args = ds ∧ (s.fn H ds).vars = []) ∧ Calls C.prog f args W fun e w' => e = .returned (.bool true) ∧ Below W.heap.size W w') :
    ReturnsInHanded {} C os f .any (fun w args => (s.pre enc C.prog fn conds false w args ∧ laidMetH C.prog laid w) ∧ sizedMet enc C.prog fn (OpenSpec.ofChange s) false w args) (s.post enc C.prog fn false true false false) := by
  refine returnsInHanded_of_change_and (X := fun w _ => laidMetH C.prog laid w) (fun _ _ _ hh h => h.of_heap hh) own started noInit hfn witness ?_
  intro W base args ds gs before hval hW _ _ hL _
  have hW' := hW
  obtain ⟨p, q, hA, hV, hp, hfz, hnd⟩ := hW
  have hlt : ∀ x ∈ p, x.block < W.heap.size := fun x hx => hW'.lt x (by rw [hp]; simp [hx])
  obtain ⟨hsp, hc⟩ := walk W base args ds p hval hA hlt hL
  refine hc.mono fun e W' ⟨he, hb⟩ => ⟨_, he, law_post hl (fun t ht => ?_) hv hr hbool hsp hW' hb⟩
  have := List.all_eq_true.1 hts t ht
  simpa using this
end Go.Proofs.YtpnnbihofoomeaaDoor

/-
  A layout that came in, opened: its slices as lists.
-/
namespace Go.Proofs.YtpnnbihofoomeaaDoor
open Go.RowKit Go.WideShapes Go.ChangeShapes Go.ChangeAt Go.Deep

section
variable {H : Type} {enc : TypeId × Value → H} {w : World} {base : Nat} {spare : Nat → Bool} {held : Bool}

theorem add_off (a : Addr) (i : Nat) (h : a.spot = none) : a.add i = ⟨a.block, a.off + i, none⟩ := by
  obtain ⟨b, o, s⟩ := a
  subst h
  unfold Addr.add
  by_cases hi : i = 0
  · simp [hi]
  · simp [hi]

/-- A slice of elements of k cells each, of which each is what an x is told by. -/
theorem open_rows {P : Program} {α : Type} [Inhabited α] {t e : TypeId} {k : Nat} {encA : α → List Value} {Good : α → Prop} {fuel : Nat} {cs : List Value} {x : DataW H × List MemPlace} (ht : P.underlying t = some (.slice e)) (hk : P.cellsOf e = k) (h0 : 0 < k)
    (hx : ∀ (fuel : Nat) (cs : List Value) (y : DataW H × List MemPlace), cs.length = k → DataW.trod enc P w base spare held fuel e cs = some y → ∃ x : α, encA x = cs ∧ Good x)
    (h : DataW.trod enc P w base spare held fuel t cs = some x) :
    ∃ (A : Option Addr) (len cap : Nat) (xs : List α), cs = [.slice A len cap] ∧ xs.length = len ∧ len ≤ cap ∧ cap ≤ 9223372036854775807 ∧ At w k encA A xs ∧ ∀ x ∈ xs, Good x := by
  rcases open_slice ht h with ⟨e, _⟩ | ⟨a, len, cap, m, n, D, Pl, rfl, hb, hl, hm, hmm, _, hi⟩
  · subst e
    exact ⟨none, 0, 0, [], rfl, rfl, by omega, by omega, .inl rfl, fun x hx => by cases hx⟩
  · have hM : maxLen = 9223372036854775807 := rfl
    rw [hM] at hm
    have hlm : len ≤ m := by rw [hmm]; split <;> omega
    have key : ∀ i, i < len → ∃ x : α, (∀ j, j < k → w.cell? (a.add (i * k + j)) = (encA x)[j]?) ∧ (encA x).length = k ∧ Good x := by
      intro i hlt
      obtain ⟨cs', hc, ht'⟩ := hi i (by omega)
      rw [hk] at hc
      obtain ⟨_, hcl, hat⟩ := World.cells?_some hc
      obtain ⟨x, rfl, hg⟩ := hx _ _ _ hcl ht'
      refine ⟨x, fun j hj => ?_, hcl, hg⟩
      rw [← add_add]
      exact hat j hj
    obtain ⟨f, hf⟩ := choose_lt key
    refine ⟨some a, len, cap, (List.range len).map f, rfl, by simp, hl, hm, ?_, fun x hx => ?_⟩
    · by_cases hz : len = 0
      · exact .inl (by simp [hz])
      · have g := (hf 0 (by omega)).1 0 h0
        have hs : 0 < (encA (f 0)).length := by rw [(hf 0 (by omega)).2.1]; exact h0
        rw [List.getElem?_eq_getElem hs] at g
        have hspot : a.spot = none := by
          have := World.cell?_spot g
          simpa [Addr.add] using this
        refine .inr ⟨a.block, a.off, by cases a; simp_all, ?_, fun j x hj i v hv => ?_⟩
        · have := World.block_lt_of_cell? _ _ g
          simpa [Addr.add] using this
        · have hjl : j < len := by
            have := (List.getElem?_eq_some_iff.1 hj).1
            simpa using this
          rw [List.getElem?_map, List.getElem?_range hjl] at hj
          simp only [Option.map_some, Option.some.injEq] at hj
          subst hj
          have hil : i < k := by rw [← (hf j hjl).2.1]; exact (List.getElem?_eq_some_iff.1 hv).1
          have := (hf j hjl).1 i hil
          rw [add_off _ _ hspot, ← Nat.add_assoc] at this
          rw [this, hv]
    · obtain ⟨i, hi, rfl⟩ := List.mem_map.1 hx
      exact (hf i (List.mem_range.1 hi)).2.2

instance : Inhabited Prt := ⟨⟨0, 0⟩⟩
instance : Inhabited Stp := ⟨⟨0, 0, 0⟩⟩
instance : Inhabited Flk := ⟨⟨0, 0, 0, 0⟩⟩
instance : Inhabited Ext' := ⟨⟨0, 0, []⟩⟩
instance : Inhabited (Ext' × Value) := ⟨(⟨0, 0, []⟩, .slice none 0 0)⟩

theorem wf_u8 {x : Int} (h : (Lit.int .u8 x).wf = true) : 0 ≤ x ∧ x ≤ 255 := by
  simp [Lit.wf, IntKind.min, IntKind.max, IntKind.signed, IntKind.bits] at h
  exact ⟨by omega, by omega⟩

theorem read_sec (fuel : Nat) (cs : List Value) (y : DataW H × List MemPlace) (hl : cs.length = 11) (h : DataW.trod enc Tryd.prog w base spare held fuel 69 cs = some y) : ∃ x : Sec, x.enc = cs ∧ (0 ≤ x.k ∧ x.k ≤ 255) := by
  have hc := fun o k => kinds_cells (n := 6) (ks := [.u8, .i64, .i64, .i64, .i64, .i64, .i64, .i64, .i64, .i64, .i64]) h (by kernel_rfl) o k
  match cs, hl with
  | [c0, c1, c2, c3, c4, c5, c6, c7, c8, c9, c10], _ =>
    obtain ⟨z0, e0, wk⟩ := hc 0 _ rfl
    obtain ⟨z1, e1, _⟩ := hc 1 _ rfl
    obtain ⟨z2, e2, _⟩ := hc 2 _ rfl
    obtain ⟨z3, e3, _⟩ := hc 3 _ rfl
    obtain ⟨z4, e4, _⟩ := hc 4 _ rfl
    obtain ⟨z5, e5, _⟩ := hc 5 _ rfl
    obtain ⟨z6, e6, _⟩ := hc 6 _ rfl
    obtain ⟨z7, e7, _⟩ := hc 7 _ rfl
    obtain ⟨z8, e8, _⟩ := hc 8 _ rfl
    obtain ⟨z9, e9, _⟩ := hc 9 _ rfl
    obtain ⟨z10, e10, _⟩ := hc 10 _ rfl
    obtain rfl := Option.some.inj e0
    obtain rfl := Option.some.inj e1
    obtain rfl := Option.some.inj e2
    obtain rfl := Option.some.inj e3
    obtain rfl := Option.some.inj e4
    obtain rfl := Option.some.inj e5
    obtain rfl := Option.some.inj e6
    obtain rfl := Option.some.inj e7
    obtain rfl := Option.some.inj e8
    obtain rfl := Option.some.inj e9
    obtain rfl := Option.some.inj e10
    exact ⟨⟨z0, z1, z2, z3, z4, z5, z6, z7, z8, z9, z10⟩, rfl, wf_u8 wk⟩
theorem read_sig (fuel : Nat) (cs : List Value) (y : DataW H × List MemPlace) (hl : cs.length = 2) (h : DataW.trod enc Tryd.prog w base spare held fuel 71 cs = some y) : ∃ x : Prt, x.enc = cs ∧ True := by
  have hc := fun o k => kinds_cells (n := 6) (ks := [.i64, .i64]) h (by kernel_rfl) o k
  match cs, hl with
  | [c0, c1], _ =>
    obtain ⟨z0, e0, _⟩ := hc 0 _ rfl
    obtain ⟨z1, e1, _⟩ := hc 1 _ rfl
    obtain rfl := Option.some.inj e0
    obtain rfl := Option.some.inj e1
    exact ⟨⟨z0, z1⟩, rfl, trivial⟩
theorem read_step (fuel : Nat) (cs : List Value) (y : DataW H × List MemPlace) (hl : cs.length = 3) (h : DataW.trod enc Tryd.prog w base spare held fuel 73 cs = some y) : ∃ x : Stp, x.enc = cs ∧ True := by
  have hc := fun o k => kinds_cells (n := 6) (ks := [.i64, .i64, .i64]) h (by kernel_rfl) o k
  match cs, hl with
  | [c0, c1, c2], _ =>
    obtain ⟨z0, e0, _⟩ := hc 0 _ rfl
    obtain ⟨z1, e1, _⟩ := hc 1 _ rfl
    obtain ⟨z2, e2, _⟩ := hc 2 _ rfl
    obtain rfl := Option.some.inj e0
    obtain rfl := Option.some.inj e1
    obtain rfl := Option.some.inj e2
    exact ⟨⟨z0, z1, z2⟩, rfl, trivial⟩
theorem read_flank (fuel : Nat) (cs : List Value) (y : DataW H × List MemPlace) (hl : cs.length = 4) (h : DataW.trod enc Tryd.prog w base spare held fuel 75 cs = some y) : ∃ x : Flk, x.enc = cs ∧ True := by
  have hc := fun o k => kinds_cells (n := 6) (ks := [.i64, .i64, .i64, .i64]) h (by kernel_rfl) o k
  match cs, hl with
  | [c0, c1, c2, c3], _ =>
    obtain ⟨z0, e0, _⟩ := hc 0 _ rfl
    obtain ⟨z1, e1, _⟩ := hc 1 _ rfl
    obtain ⟨z2, e2, _⟩ := hc 2 _ rfl
    obtain ⟨z3, e3, _⟩ := hc 3 _ rfl
    obtain rfl := Option.some.inj e0
    obtain rfl := Option.some.inj e1
    obtain rfl := Option.some.inj e2
    obtain rfl := Option.some.inj e3
    exact ⟨⟨z0, z1, z2, z3⟩, rfl, trivial⟩
set_option maxRecDepth 100000 in
theorem read_exit (fuel : Nat) (cs : List Value) (y : DataW H × List MemPlace) (hl : cs.length = 3) (h : DataW.trod enc Tryd.prog w base spare held fuel 51 cs = some y) : ∃ x : Ext' × Value, Ext'.enc x = cs ∧ Sl w 3 Stp.enc x.2 x.1.over := by
  obtain ⟨xs, n, _, _, _, hxl, hf⟩ := DataW.trod_struct Tryd.underlying51 h
  match cs, hl with
  | [c0, c1, c2], _ =>
    have h0 : DataW.trod enc Tryd.prog w base spare held n 48 (List.take (Tryd.prog.cellsOf 48) (List.drop 0 [c0, c1, c2])) = xs[0]? := hf 0 _ rfl
    have h1 : DataW.trod enc Tryd.prog w base spare held n 49 (List.take (Tryd.prog.cellsOf 49) (List.drop 2 [c0, c1, c2])) = xs[1]? := hf 1 _ rfl
    have hs : 0 < xs.length ∧ 1 < xs.length := by rw [hxl]; decide
    rw [List.getElem?_eq_getElem hs.1, show Tryd.prog.cellsOf 48 = 2 by kernel_rfl] at h0
    rw [List.getElem?_eq_getElem hs.2, show Tryd.prog.cellsOf 49 = 1 by kernel_rfl] at h1
    have hc := fun o k => kinds_cells (n := 6) (ks := [.i64, .i64]) h0 (by kernel_rfl) o k
    obtain ⟨z0, e0, _⟩ := hc 0 _ rfl
    obtain ⟨z1, e1, _⟩ := hc 1 _ rfl
    obtain rfl := Option.some.inj e0
    obtain rfl := Option.some.inj e1
    obtain ⟨A, len, cap, ys, e, hl, hlc, hcm, hA, _⟩ := open_rows (k := 3) (encA := Stp.enc) (Good := fun _ => True) Tryd.underlying49 (by kernel_rfl) (by omega) read_step h1
    obtain rfl : c2 = .slice A len cap := by simpa using e
    subst hl
    exact ⟨(⟨z0, z1, ys⟩, .slice A ys.length cap), rfl, A, cap, rfl, hlc, hcm, hA⟩

set_option maxRecDepth 100000 in
theorem open_layout {r : Reach} {b0 : Nat} {v : Value} {d : DataW H} {p : List MemPlace} (hv : Value.okWide Tryd.prog w r b0 29 v) (h : DataW.Trod enc Tryd.prog w base spare held 29 v d p) : ∃ (L : Lay) (q : Where), v = L.val q ∧ LayAt w q L := by
  obtain ⟨cs, rfl, hsz⟩ := okWide_struct Tryd.underlying29 hv
  obtain ⟨l⟩ := cs
  obtain ⟨fuel, hf⟩ := h
  obtain ⟨xs, n, _, _, _, hxl, hf⟩ := DataW.trod_struct Tryd.underlying29 hf
  match l, hsz.trans (show Tryd.prog.cellsOf 29 = 11 by kernel_rfl) with
  | [c0, c1, c2, c3, c4, c5, c6, c7, c8, c9, c10], _ =>
    have h0 : DataW.trod enc Tryd.prog w base spare held n 22 (List.take (Tryd.prog.cellsOf 22) (List.drop 0 [c0, c1, c2, c3, c4, c5, c6, c7, c8, c9, c10])) = xs[0]? := hf 0 _ rfl
    have h1 : DataW.trod enc Tryd.prog w base spare held n 23 (List.take (Tryd.prog.cellsOf 23) (List.drop 1 [c0, c1, c2, c3, c4, c5, c6, c7, c8, c9, c10])) = xs[1]? := hf 1 _ rfl
    have h2 : DataW.trod enc Tryd.prog w base spare held n 24 (List.take (Tryd.prog.cellsOf 24) (List.drop 2 [c0, c1, c2, c3, c4, c5, c6, c7, c8, c9, c10])) = xs[2]? := hf 2 _ rfl
    have h3 : DataW.trod enc Tryd.prog w base spare held n 25 (List.take (Tryd.prog.cellsOf 25) (List.drop 3 [c0, c1, c2, c3, c4, c5, c6, c7, c8, c9, c10])) = xs[3]? := hf 3 _ rfl
    have h4 : DataW.trod enc Tryd.prog w base spare held n 27 (List.take (Tryd.prog.cellsOf 27) (List.drop 4 [c0, c1, c2, c3, c4, c5, c6, c7, c8, c9, c10])) = xs[4]? := hf 4 _ rfl
    have hs : 0 < xs.length ∧ 1 < xs.length ∧ 2 < xs.length ∧ 3 < xs.length ∧ 4 < xs.length := by rw [hxl]; decide
    rw [List.getElem?_eq_getElem hs.1, show Tryd.prog.cellsOf 22 = 1 by kernel_rfl] at h0
    rw [List.getElem?_eq_getElem hs.2.1, show Tryd.prog.cellsOf 23 = 1 by kernel_rfl] at h1
    rw [List.getElem?_eq_getElem hs.2.2.1, show Tryd.prog.cellsOf 24 = 1 by kernel_rfl] at h2
    rw [List.getElem?_eq_getElem hs.2.2.2.1, show Tryd.prog.cellsOf 25 = 1 by kernel_rfl] at h3
    rw [List.getElem?_eq_getElem hs.2.2.2.2, show Tryd.prog.cellsOf 27 = 7 by kernel_rfl] at h4
    obtain ⟨A0, len0, cap0, ys0, e0, hl0, hlc0, hcm0, hA0, hG0⟩ := open_rows (k := 11) (encA := Sec.enc) (Good := fun x => 0 ≤ x.k ∧ x.k ≤ 255) Tryd.underlying22 (by kernel_rfl) (by omega) read_sec h0
    obtain ⟨A1, len1, cap1, ys1, e1, hl1, hlc1, hcm1, hA1, _⟩ := open_rows (k := 2) (encA := Prt.enc) (Good := fun _ => True) Tryd.underlying23 (by kernel_rfl) (by omega) read_sig h1
    obtain ⟨A2, len2, cap2, ys2, e2, hl2, hlc2, hcm2, hA2, hG2⟩ := open_rows (k := 3) (encA := Ext'.enc) (Good := fun x => Sl w 3 Stp.enc x.2 x.1.over) Tryd.underlying24 (by kernel_rfl) (by omega) read_exit h2
    obtain ⟨A3, len3, cap3, ys3, e3, hl3, hlc3, hcm3, hA3, _⟩ := open_rows (k := 4) (encA := Flk.enc) (Good := fun _ => True) Tryd.underlying25 (by kernel_rfl) (by omega) read_flank h3
    obtain rfl : c0 = .slice A0 len0 cap0 := by simpa using e0
    obtain rfl : c1 = .slice A1 len1 cap1 := by simpa using e1
    obtain rfl : c2 = .slice A2 len2 cap2 := by simpa using e2
    obtain rfl : c3 = .slice A3 len3 cap3 := by simpa using e3
    have hc := fun o k => kinds_cells (n := 6) (ks := [.i64, .i64, .i64, .i64, .i64, .i64, .i64]) h4 (by kernel_rfl) o k
    obtain ⟨z0, f0, _⟩ := hc 0 _ rfl
    obtain ⟨z1, f1, _⟩ := hc 1 _ rfl
    obtain ⟨z2, f2, _⟩ := hc 2 _ rfl
    obtain ⟨z3, f3, _⟩ := hc 3 _ rfl
    obtain ⟨z4, f4, _⟩ := hc 4 _ rfl
    obtain ⟨z5, f5, _⟩ := hc 5 _ rfl
    obtain ⟨z6, f6, _⟩ := hc 6 _ rfl
    obtain rfl := Option.some.inj f0
    obtain rfl := Option.some.inj f1
    obtain rfl := Option.some.inj f2
    obtain rfl := Option.some.inj f3
    obtain rfl := Option.some.inj f4
    obtain rfl := Option.some.inj f5
    obtain rfl := Option.some.inj f6
    subst hl0 hl1 hl2 hl3
    refine ⟨⟨ys0, ys1, ys2.map (·.1), ys3, z0, z1, z2, z3, z4, z5, z6⟩, ⟨A0, A1, A2, A3, cap0, cap1, cap2, cap3⟩, ?_, hA0, hA1, ⟨ys2, rfl, hA2, hG2⟩, hA3, ⟨hlc0, hcm0⟩, ⟨hlc1, hcm1⟩, ⟨by simpa using hlc2, hcm2⟩, ⟨hlc3, hcm3⟩, hG0⟩
    simp [Lay.val]
end
end Go.Proofs.YtpnnbihofoomeaaDoor

/-
  A slice of bytes that came in, opened.
-/
namespace Go.Proofs.YtpnnbihofoomeaaDoor
open Go.RowKit Go.WideShapes Go.ChangeShapes Go.ChangeAt Go.Deep

section
variable {H : Type} {enc : TypeId × Value → H} {w : World} {base : Nat} {spare : Nat → Bool} {held : Bool}
set_option maxRecDepth 100000 in
theorem read_byte (fuel : Nat) (cs : List Value) (y : DataW H × List MemPlace) (hl : cs.length = 1) (h : DataW.trod enc Tryd.prog w base spare held fuel 5 cs = some y) : ∃ x : Nat, bEnc x = cs ∧ x < 256 := by
  have hc := fun o k => kinds_cells (n := 6) (ks := [.u8]) h (by kernel_rfl) o k
  match cs, hl with
  | [c0], _ =>
    obtain ⟨z0, e0, hw⟩ := hc 0 _ rfl
    obtain rfl := Option.some.inj e0
    have hz := wf_u8 hw
    obtain ⟨x, rfl⟩ := Int.eq_ofNat_of_zero_le hz.1
    exact ⟨x, rfl, by omega⟩
set_option maxRecDepth 100000 in
theorem open_bytes {r : Reach} {b0 : Nat} {v : Value} {d : DataW H} {p : List MemPlace} (hv : Value.okWide Tryd.prog w r b0 30 v) (h : DataW.Trod enc Tryd.prog w base spare held 30 v d p) :
    ∃ (A : Option Addr) (cap : Nat) (bs : List Nat), v = .slice A bs.length cap ∧ At w 1 bEnc A bs ∧ (∀ b ∈ bs, b < 256) ∧ bs.length ≤ cap ∧ cap ≤ 9223372036854775807 := by
  obtain ⟨a, len0, cap0, rfl⟩ := okWide_slice Tryd.underlying30 hv
  obtain ⟨fuel, hf⟩ := h
  obtain ⟨A, len, cap, ys, e2, hl2, hlc, hcm, hA, hg⟩ := open_rows (k := 1) (encA := bEnc) (Good := fun x => x < 256) Tryd.underlying30 (by kernel_rfl) (by omega) read_byte hf
  subst hl2
  exact ⟨A, cap, ys, by simpa [Value.cells] using e2, hA, hg, hlc, hcm⟩
end
end Go.Proofs.YtpnnbihofoomeaaDoor

/-
  What the two listed variables of package port hold, out of the rows' condition; parameters of one kind each, opened.
-/
namespace Go.Proofs.YtpnnbihofoomeaaDoor
open Go.RowKit Go.WideShapes Go.ChangeShapes Go.ChangeAt Go.WideMaps Go.WideElems Go.Joins Go.Deep

theorem ownP : ownKnob Tryd.prog.godebug = none := by kernel_rfl
theorem laidP : laidOutB Tryd.prog = true := by kernel_rfl
abbrev laidL : List (String × DataW Unit) := [("lockbar/port.kinds", Rows.laid_lockbar_port_kinds), ("lockbar/port.none", Rows.laid_lockbar_port_none)]
theorem gKinds : Tryd.prog.globalNamed "lockbar/port.kinds" = some 1 := by kernel_rfl
theorem gNone : Tryd.prog.globalNamed "lockbar/port.none" = some 0 := by kernel_rfl
theorem tKinds : (Tryd.prog.globals[1]?).map (·.type) = some 151 := by kernel_rfl
theorem tNone : (Tryd.prog.globals[0]?).map (·.type) = some 48 := by kernel_rfl

theorem leafs_none_all : (List.range 2).map (leaf (H := Unit) Tryd.prog 4 48 Rows.laid_lockbar_port_none) = (List.range 2).map (fun o => noneL[o]?) := by kernel_rfl
theorem leafs_kinds_all : (List.range 28).map (leaf (H := Unit) Tryd.prog 6 151 Rows.laid_lockbar_port_kinds) = (List.range 28).map (fun o => kindL[o]?) := by kernel_rfl
theorem leafs_none (o : Nat) (ho : o < 2) : leaf (H := Unit) Tryd.prog 4 48 Rows.laid_lockbar_port_none o = noneL[o]? := by
  have h := congrArg (fun l => l[o]?) leafs_none_all
  simp only [List.getElem?_map, List.getElem?_range ho, Option.map_some, Option.some.injEq] at h
  exact h
theorem leafs_kinds (o : Nat) (ho : o < 28) : leaf (H := Unit) Tryd.prog 6 151 Rows.laid_lockbar_port_kinds o = kindL[o]? := by
  have h := congrArg (fun l => l[o]?) leafs_kinds_all
  simp only [List.getElem?_map, List.getElem?_range ho, Option.map_some, Option.some.injEq] at h
  exact h

theorem kinds_of_laid {W : World} (h : laidMetH Tryd.prog laidL W) : Kinds W := by
  rw [MakeChecks.laidMetH_plain _ _ _ (by kernel_rfl)] at h
  obtain ⟨ps, ⟨g0, t0, cs0, f0, p0, q0, hg0, ht0, hv0, hd0, ⟨g1, t1, cs1, f1, p1, q1, hg1, ht1, hv1, hd1, _, _⟩, _⟩, _, _⟩ := h
  obtain rfl := Option.some.inj (gKinds.symm.trans hg0)
  obtain rfl := Option.some.inj (gNone.symm.trans hg1)
  obtain rfl := Option.some.inj (tKinds.symm.trans ht0)
  obtain rfl := Option.some.inj (tNone.symm.trans ht1)
  refine ⟨fun o v hv => ?_, fun o v hv => ?_⟩
  · have h2 := leaf_cell 4 hd1 ((leafs_none o (List.getElem?_eq_some_iff.1 hv).1).trans hv)
    have := World.var?_cell hg1 hv1 o
    rw [this]
    simpa using h2
  · have h2 := leaf_cell 6 hd0 ((leafs_kinds o (List.getElem?_eq_some_iff.1 hv).1).trans hv)
    have := World.var?_cell hg0 hv0 o
    rw [this]
    simpa using h2

/-- The door's own heap meets the condition: three closed facts. -/
theorem door_met (os : Os) (args : Array Value) : laidMetH Tryd.prog laidL ((World.doorLaid Tryd.prog 400 os).forCall (fun _ _ => 0) ⟨#[], args, []⟩).memory :=
  laidMetH_of_parts3 (fuel := 8) (laidMet_of_run' 8 (by kernel_rfl) (by kernel_rfl)) (by kernel_rfl) (by kernel_rfl)

set_option maxRecDepth 100000 in
theorem open_port {H : Type} {enc : TypeId × Value → H} {w : World} {base : Nat} {spare : Nat → Bool} {held : Bool} {r : Reach} {b0 : Nat} {v : Value} {d : DataW H} {p : List MemPlace}
    (hv : Value.okWide Tryd.prog w r b0 48 v) (h : DataW.Trod enc Tryd.prog w base spare held 48 v d p) : ∃ x0 x1, v = .agg #[.int .i64 x0, .int .i64 x1] := by
  obtain ⟨cs, rfl, hsz⟩ := okWide_struct Tryd.underlying48 hv
  obtain ⟨l⟩ := cs
  obtain ⟨fuel, hf⟩ := h
  have hc := fun o k => kinds_cells (n := 6) (ks := [.i64, .i64]) hf (by kernel_rfl) o k
  match l, hsz.trans (show Tryd.prog.cellsOf 48 = 2 by kernel_rfl) with
  | [c0, c1], _ =>
    obtain ⟨z0, e0, _⟩ := hc 0 _ rfl
    obtain ⟨z1, e1, _⟩ := hc 1 _ rfl
    obtain rfl := Option.some.inj e0
    obtain rfl := Option.some.inj e1
    exact ⟨z0, z1, rfl⟩
set_option maxRecDepth 100000 in
theorem open_step {H : Type} {enc : TypeId × Value → H} {w : World} {base : Nat} {spare : Nat → Bool} {held : Bool} {r : Reach} {b0 : Nat} {v : Value} {d : DataW H} {p : List MemPlace}
    (hv : Value.okWide Tryd.prog w r b0 73 v) (h : DataW.Trod enc Tryd.prog w base spare held 73 v d p) : ∃ x0 x1 x2, v = .agg #[.int .i64 x0, .int .i64 x1, .int .i64 x2] := by
  obtain ⟨cs, rfl, hsz⟩ := okWide_struct Tryd.underlying73 hv
  obtain ⟨l⟩ := cs
  obtain ⟨fuel, hf⟩ := h
  have hc := fun o k => kinds_cells (n := 6) (ks := [.i64, .i64, .i64]) hf (by kernel_rfl) o k
  match l, hsz.trans (show Tryd.prog.cellsOf 73 = 3 by kernel_rfl) with
  | [c0, c1, c2], _ =>
    obtain ⟨z0, e0, _⟩ := hc 0 _ rfl
    obtain ⟨z1, e1, _⟩ := hc 1 _ rfl
    obtain ⟨z2, e2, _⟩ := hc 2 _ rfl
    obtain rfl := Option.some.inj e0
    obtain rfl := Option.some.inj e1
    obtain rfl := Option.some.inj e2
    exact ⟨z0, z1, z2, rfl⟩
end Go.Proofs.YtpnnbihofoomeaaDoor
