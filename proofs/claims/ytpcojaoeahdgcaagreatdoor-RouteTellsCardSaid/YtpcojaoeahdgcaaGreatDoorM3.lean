/-
  The law of 'for x := range f' in a plain walk, where a round that goes on turns nothing that was there, and one that leaves the loop may write the blocks of A.
-/
import Derived.Test.YtpcojaoeahdgcaaGreatDoorM2
import Derived.ProofKit
import Derived.ChangeSame
import Derived.Carry
import Derived.LaidMore
import Derived.OpenShut
import Derived.Stop.Joined
import Derived.Deep.Slices

namespace Go.Proofs.YtpcojaoeahdgcaaGreatDoor
open Go.RowKit Go.Shelf

/-- How the body of a round may be left. -/
def roundPostX {α : Type} (A : Nat → Prop) (I : List α → Prop) (Ix : Code → List α → World → Prop) (xs : List α) (W : World) : Exit → Act → World → Prop
  | .normal, _, W' => Below W.heap.size W W' ∧ I xs
  | .ret, _, W' => Writes A W W' ∧ Ix .ret xs W'
  | .exit id, _, W' => Writes A W W' ∧ Ix (.exit id) xs W'
  | .goto t, _, W' => Writes A W W' ∧ Ix (.goto t) xs W'
  | .panic _, _, _ => False
  | .outgrown, _, _ => False

/-- **'for x := range f' IN A PLAIN WALK, written where it is left.** -/
theorem wp_range_x {P : Program} {α : Type} {g : Operand} {ps : Array Tmp} {assign body : Code} {Q : Exit → Act → World → Prop} {a : Act} {w : World}
    {gf : Nat} {lb : Array Value} (hg : a.eval g = .func (.func gf) #[] lb) (eg : ∀ args w, (callFunc gf args).run P w = .ok (.enter gf args) w)
    {encs : α → Array Value} {S Sp : List α → Prop} {N : Nat} (A : Nat → Prop) (hA : ∀ b, A b → b < w.heap.size)
    (hseq : SeqStopsK Fence.wide 4 P gf lb encs (KeepsE NoB NoT w.heap.size) S Sp N w) (hps : ∀ x, (encs x).size = ps.size)
    (I : List α → Prop) (Ix : Code → List α → World → Prop) (hIx : ∀ c s W W', Ix c s W → (∀ b, A b → W'.heap[b]? = W.heap[b]?) → Ix c s W') (h0 : I []) (Ax : α → Act → World → Prop) (hAx : ∀ x a' W W', Ax x a' W → SameCells W W' → W.heap.size ≤ W'.heap.size → Ax x a' W')
    (hassign : ∀ (l : Nat) (x : α) (W : World) (K : Act → World → Prop), Below w.heap.size w W → (∀ a' W', Below W.heap.size W W' → Ax x a' W' → K a' W') →
      assign.wpIn (Fence.wide.inRound l) 3 P (Exit.then K (fun _ _ _ => False)) { tmps := (ps.zip (encs x)).foldl (fun t (p, v) => t.setIfInBounds p v) a.tmps, defers := [] } W)
    (hbody : ∀ (l : Nat) (pre : List α) (x : α) (a' : Act) (W : World), Below w.heap.size w W → I pre → Ax x a' W → pre.length < N → body.wpIn (Fence.wide.inRound l) 3 P (roundPostX A I Ix (pre ++ [x]) W) a' W)
    (hdone : ∀ (D : Nat) (xs : List α) (W : World), w.heap.size ≤ D → S xs → Below w.heap.size w W → I xs → W.heap[D]? = some (.deferred (some [])) → Q .normal { a with defers := { target := .collected D, args := #[] } :: a.defers } W)
    (hstop : ∀ (D : Nat) (c : Code) (pre : List α) (W : World), w.heap.size ≤ D → Sp pre → Writes A w W → Ix c pre W → W.heap[D]? = some (.deferred (some [])) → c.wp P Q { a with defers := { target := .collected D, args := #[] } :: a.defers } W) :
    (Code.rangeFunc g ps assign body).wp P Q a w := by
  refine (wpIn_wide (n := 5)).1 (wpIn_rangeFunc_ownH (F := Fence.wide) (n := 5) rfl (by decide) hg trivial eg hseq (fun h k => h.trans k) (fun W l o o' _ hl hc _ => keepE_put W l o o' hl hc) (Below.refl _ _) hps
    (fun s W => I s ∧ Below w.heap.size w W) (fun c s W => Ix c s W ∧ Writes A w W) (ownFrom_below_and I) (fun c => ownFrom_of_blocks hA (hIx c)) ⟨h0, Below.refl _ _⟩
    Ax (fun x a' _ W W' row hs hgr hr => hAx x a' W W' hs (same_of_grown hgr hr) hgr.size) ?_ ?_ ?_ ?_)
  · rintro l pre x W K ⟨hi, hw⟩ hK
    refine hassign l x W K hw (fun a' W' hb hx => hK a' W' ⟨hb.size, fun k o _ hk _ => (hb.block k (Array.getElem?_eq_some_iff.1 hk).1).trans hk⟩ (.of_below hb) ⟨hi, hw.trans (hb.mono hw.size)⟩ hx)
  · rintro l pre x a' W _ _ ⟨hi, hw⟩ hx hlen
    refine wpIn_mono (hbody l pre x a' W hw hi hx hlen) ?_
    have kf : ∀ W', Below W.heap.size W W' → KeepsFrom w.heap.size W W' := fun W' hb => ⟨hb.size, fun k o _ hk _ => (hb.block k (Array.getElem?_eq_some_iff.1 hk).1).trans hk⟩
    have kx : ∀ W', Writes A W W' → KeepsFrom w.heap.size W W' := fun W' h => ⟨h.size, fun k o hB hk _ => (h.block k (Array.getElem?_eq_some_iff.1 hk).1 (fun ha => by have := hA k ha; omega)).trans hk⟩
    have kw : ∀ W', Writes A W W' → Writes A w W' := fun W' h => (Writes.of_below hw).trans h
    rintro e a' W' hq
    cases e with
    | normal => exact ⟨kf W' hq.1, .of_below hq.1, hq.2, hw.trans (hq.1.mono hw.size)⟩
    | ret => exact ⟨kx W' hq.1, hq.2, kw W' hq.1⟩
    | exit id => exact ⟨kx W' hq.1, hq.2, kw W' hq.1⟩
    | goto t => exact ⟨kx W' hq.1, hq.2, kw W' hq.1⟩
    | panic ch => exact hq.elim
    | outgrown => exact hq.elim
  · rintro D xs W hD hS ⟨hi, hw⟩ hK
    exact hdone D xs W hD hS hw hi hK
  · rintro D c pre W hD hS ⟨hi, hw⟩ hK
    exact wpIn_wide.2 (hstop D c pre W hD hS hw hi hK)
end Go.Proofs.YtpcojaoeahdgcaaGreatDoor

/-
  The step from a law's walk to its row: whatever the parameters, they read again as they read before, since nothing that was there has turned; the result is true.
-/
namespace Go.Proofs.YtpcojaoeahdgcaaGreatDoor
open Go.RowKit Go.WideShapes Go.ChangeShapes Go.ChangeAt

section
variable {H : Type} {enc : TypeId × Value → H} {P : Program}
/-- All arguments read again. -/
theorem trodAll_again (hl : laidOutB P = true) {W W' : World} (hb : Below W.heap.size W W') {sp : Nat → Bool} : ∀ {ts : List TypeId} {vs : List Value} {ds : List (DataW H)} {ps : List MemPlace}, (∀ t ∈ ts, P.readableRec t = true ∧ t < P.types.size) →
    DataW.TrodAll enc P W 0 (fun _ => true) true ts vs ds ps → (∀ p ∈ ps, p.block < W.heap.size) → (∀ p ∈ ps, sp p.block = true) → DataW.TrodAll enc P W' 0 sp true ts vs ds ps
  | [], _, _, _, _, h, _, _ => by
    obtain ⟨rfl, rfl, rfl⟩ := trodAll_nil h
    exact trodAll_mk0
  | t :: ts, _, _, _, ht, h, hlt, hs => by
    obtain ⟨v, vs, d, ds, p, q, rfl, rfl, rfl, h1, h2⟩ := trodAll_cons h
    have a := ht t (by simp)
    exact ⟨p, q, WideElems.Trod_stays hl a.1 a.2 h1 (fun x hx => hb.same (hlt x (by simp [hx]))) (fun x hx => hs x (by simp [hx])),
      trodAll_again hl hb (fun t' h' => ht t' (by simp [h'])) h2 (fun x hx => hlt x (by simp [hx])) (fun x hx => hs x (by simp [hx])), rfl⟩

/-- What a law's row asks behind the call. -/
theorem law_post {f : Func} {s : ChangeSpec} {W W' : World} {args : Array Value} {ds gs : List (DataW H)} {before : List MemPlace} {tb : TypeId}
    (hl : laidOutB P = true) (hts : ∀ t ∈ f.params.toList, P.readableRec t = true ∧ t < P.types.size) (hv : s.vars = []) (hr : f.resultTypes = #[tb]) (hbool : P.underlying tb = some .bool)
    (hsp : (s.fn H ds).results = [.lit (.bool true)] ∧ (s.fn H ds).args = ds ∧ (s.fn H ds).vars = [])
    (hW : DataW.Whole enc P f.params.toList s.vars false W args.toList ds gs before) (hb : Below W.heap.size W W') :
    s.post enc P f false true false false W args (.bool true) W' := by
  have hlt : ∀ p ∈ before, p.block < W.heap.size := fun p hp => hW.lt p hp
  have hW0 := hW
  obtain ⟨p, q, hA, hV, rfl, hfz, hnd⟩ := hW
  rw [hv] at hV
  obtain ⟨rfl, rfl⟩ := trodVars_none hV
  simp only [List.append_nil] at hlt
  have hA2 : ∀ sp : Nat → Bool, (∀ x ∈ p, sp x.block = true) → DataW.TrodAll enc P W' 0 sp true f.params.toList args.toList ds p := fun sp hs => trodAll_again hl hb hts hA hlt hs
  refine ⟨ds, [], p ++ [], [], p, [], hW0, ?_, ?_, ?_, World.keptBut_mono (fun x hx => ⟨hx, ?_⟩) (hb.frame (· ∈ p ++ [])), fun h => by cases h⟩
  · rw [hr, List.append_nil, hsp.1]
    exact trodAll_mk1 (shut_bool hbool _)
  · rw [List.append_nil, hsp.2.1]
    exact hA2 _ (fun x hx => by simpa using hlt x hx)
  · rw [List.append_nil, hsp.2.2, hv]
    rfl
  · simpa using hx
end

/-- **A LAW's ROW, LIFTED, OUT OF ITS WALK.** -/
theorem law_lifted {C : Checked} {os : Os} {f : FuncId} {fn : Func} {s : ChangeSpec} {conds : List PathCond} {tb : TypeId} {H : Type} {enc : TypeId × Value → H}
    (own : ownKnob C.prog.godebug = none) (started : os.Started) (noInit : C.prog.inits.idxOf? f = none) (hfn : C.prog.funcs[f]? = some fn)
    (witness : ∃ (w : World) (tape : Tape) (i : Input), w.os = os ∧ (w.forCall tape i).Shaped C.prog ∧ i.vars = [] ∧ Input.okWide C.prog (w.forCall tape i) .any w.heap.size f i ∧
      s.pre6 enc C.prog fn conds false (w.forCall tape i).memory i.args ∧ Assume.holds {} C.prog (lone (Frame.enter C.prog f i.args .normal) [] (w.forCall tape i)))
    (hl : laidOutB C.prog = true) (hts : fn.params.toList.all (fun t => C.prog.readableRec t && decide (t < C.prog.types.size)) = true) (hv : s.vars = []) (hr : fn.resultTypes = #[tb]) (hbool : C.prog.underlying tb = some .bool)
    (walk : ∀ (W : World) (base : Nat) (args : Array Value) (ds : List (DataW H)) (p : List MemPlace),
      (∀ (j : Nat) t v, fn.params[j]? = some t → args[j]? = some v → Value.okWide C.prog W .any base t v) →
      DataW.TrodAll enc C.prog W 0 (fun _ => true) true fn.params.toList args.toList ds p → (∀ x ∈ p, x.block < W.heap.size) →
      ((s.fn H ds).results = [.lit (.bool true)] ∧ (s.fn H ds).args = ds ∧ (s.fn H ds).vars = []) ∧ Calls C.prog f args W fun e w' => e = .returned (.bool true) ∧ Below W.heap.size W w') :
    ReturnsInHanded {} C os f .any (s.pre6 enc C.prog fn conds false) (s.post enc C.prog fn false true false false) := by
  refine returnsInHanded_of_change own started noInit hfn witness ?_
  intro W base args ds gs before hval hW _ _
  have hW' := hW
  obtain ⟨p, q, hA, hV, hp, hfz, hnd⟩ := hW
  have hlt : ∀ x ∈ p, x.block < W.heap.size := fun x hx => hW'.lt x (by rw [hp]; simp [hx])
  obtain ⟨hsp, hc⟩ := walk W base args ds p hval hA hlt
  refine hc.mono fun e W' ⟨he, hb⟩ => ⟨_, he, law_post hl (fun t ht => ?_) hv hr hbool hsp hW' hb⟩
  have := List.all_eq_true.1 hts t ht
  simpa using this
end Go.Proofs.YtpcojaoeahdgcaaGreatDoor

/-
  A value of plain ints (through structs and arrays): each of its cells is an int of its kind, within its bounds.
-/
namespace Go.Proofs.YtpcojaoeahdgcaaGreatDoor
open Go.RowKit Go.WideShapes Go.ChangeShapes Go.ChangeAt

/-- The kind of the int that stands in cell o of a value of type t. -/
def kindAt (P : Program) : Nat → TypeId → Nat → Option IntKind
  | 0, _, _ => none
  | n + 1, t, o =>
    match P.underlying t with
    | some (.int k) => if o = 0 then some k else none
    | some (.struct fs) => fs.toList.findSome? fun f => if f.offset ≤ o ∧ o < f.offset + P.cellsOf f.type then kindAt P n f.type (o - f.offset) else none
    | some (.array m e) => if 0 < P.cellsOf e ∧ o / P.cellsOf e < m then kindAt P n e (o % P.cellsOf e) else none
    | _ => none

theorem kind_cell' {H : Type} {enc : TypeId × Value → H} {P : Program} {w : World} {base : Nat} {sp : Nat → Bool} {held : Bool} : ∀ (n : Nat) {fuel : Nat} {t : TypeId} {cs : List Value} {x : DataW H × List MemPlace} {o : Nat} {k : IntKind},
    DataW.trod enc P w base sp held fuel t cs = some x → kindAt P n t o = some k → ∃ z, cs[o]? = some (.int k z) ∧ (Lit.int k z).wf = true
  | 0, _, _, _, _, _, _, _, hl => by simp [kindAt] at hl
  | n + 1, fuel, t, cs, x, o, k, h, hl => by
    unfold kindAt at hl
    split at hl
    · rename_i k' hu
      obtain ⟨z, rfl, _, hw⟩ := DataW.trod_int hu h
      split at hl
      · rename_i e
        subst e
        cases hl
        exact ⟨z, rfl, hw⟩
      · cases hl
    · rename_i fs hu
      obtain ⟨xs, m, _, _, _, hlen, hf⟩ := DataW.trod_struct hu h
      obtain ⟨f, hmem, hy⟩ := List.exists_of_findSome?_eq_some hl
      split at hy
      · rename_i hr
        obtain ⟨i, hi⟩ := List.mem_iff_getElem?.1 hmem
        have hfi : fs[i]? = some f := by simpa using hi
        have h1 := hf i f hfi
        have hlt : i < xs.length := by rw [hlen]; exact (Array.getElem?_eq_some_iff.1 hfi).1
        rw [List.getElem?_eq_getElem hlt] at h1
        obtain ⟨z, h2, hw⟩ := kind_cell' n h1 hy
        refine ⟨z, ?_, hw⟩
        rw [List.getElem?_take_of_lt (by omega), List.getElem?_drop] at h2
        rwa [show f.offset + (o - f.offset) = o by omega] at h2
      · cases hy
    · rename_i m' e hu
      obtain ⟨xs, m, _, _, _, hlen, hf⟩ := DataW.trod_array hu h
      split at hl
      · rename_i hc
        have h1 := hf (o / P.cellsOf e) hc.2
        have hlt : o / P.cellsOf e < xs.length := by rw [hlen]; exact hc.2
        rw [List.getElem?_eq_getElem hlt] at h1
        obtain ⟨z, h2, hw⟩ := kind_cell' n h1 hl
        refine ⟨z, ?_, hw⟩
        have hm := Nat.mod_lt o hc.1
        rw [List.getElem?_take_of_lt hm, List.getElem?_drop] at h2
        rwa [show o / P.cellsOf e * P.cellsOf e + o % P.cellsOf e = o by rw [Nat.mul_comm]; exact Nat.div_add_mod o _] at h2
      · cases hl
    · cases hl

/-- All cells at once: the list of the kinds tells the list of the values. -/
theorem kinds_cells {H : Type} {enc : TypeId × Value → H} {P : Program} {w : World} {base : Nat} {sp : Nat → Bool} {held : Bool} {n fuel : Nat} {t : TypeId} {cs : List Value} {x : DataW H × List MemPlace} {ks : List IntKind}
    (h : DataW.trod enc P w base sp held fuel t cs = some x) (hk : (List.range ks.length).map (kindAt P n t) = ks.map some) (o : Nat) (k : IntKind) (ho : ks[o]? = some k) : ∃ z, cs[o]? = some (.int k z) ∧ (Lit.int k z).wf = true := by
  refine kind_cell' n h (o := o) ?_
  have hlt := (List.getElem?_eq_some_iff.1 ho).1
  have h1 := congrArg (fun l => l[o]?) hk
  simp only [List.getElem?_map, List.getElem?_range hlt, Option.map_some, ho, Option.some.injEq] at h1
  exact h1
end Go.Proofs.YtpcojaoeahdgcaaGreatDoor

/-
  A listed variable of plain data (ints, bools, structs, arrays): each of its cells, by computing; a law's row, lifted, where variables are listed.
-/
namespace Go.Proofs.YtpcojaoeahdgcaaGreatDoor
open Go.RowKit Go.WideShapes Go.ChangeShapes Go.ChangeAt

/-- The value that stands in cell o of a datum of type t. -/
def leaf {H : Type} (P : Program) : Nat → TypeId → DataW H → Nat → Option Value
  | 0, _, _, _ => none
  | n + 1, t, d, o =>
    match P.underlying t, d with
    | some .bool, .lit (.bool b) => if o = 0 then some (.bool b) else none
    | some (.int _), .lit (.int k m) => if o = 0 then some (.int k m) else none
    | some (.struct fs), .agg ds => (fs.toList.zip ds).findSome? fun x => if x.1.offset ≤ o ∧ o < x.1.offset + P.cellsOf x.1.type then leaf P n x.1.type x.2 (o - x.1.offset) else none
    | some (.array _ e), .agg ds => if 0 < P.cellsOf e then (ds[o / P.cellsOf e]?).bind fun x => leaf P n e x (o % P.cellsOf e) else none
    | _, _ => none

theorem leaf_cell {H : Type} {enc : TypeId × Value → H} {P : Program} {w : World} {base : Nat} {sp : Nat → Bool} {held : Bool} : ∀ (n : Nat) {fuel : Nat} {t : TypeId} {cs : List Value} {d : DataW H} {p : List MemPlace} {o : Nat} {v : Value},
    DataW.trod enc P w base sp held fuel t cs = some (d, p) → leaf P n t d o = some v → cs[o]? = some v
  | 0, _, _, _, _, _, _, _, _, hl => by simp [leaf] at hl
  | n + 1, fuel, t, cs, d, p, o, v, h, hl => by
    unfold leaf at hl
    split at hl
    · rename_i hu
      obtain ⟨b, rfl, hx⟩ := DataW.trod_bool hu h
      cases hx
      split at hl
      · rename_i e; subst e; simpa using hl
      · cases hl
    · rename_i hu
      obtain ⟨b, rfl, hx, _⟩ := DataW.trod_int hu h
      cases hx
      split at hl
      · rename_i e; subst e; simpa using hl
      · cases hl
    · rename_i fs ds hu
      obtain ⟨xs, m, _, hx, _, hlen, hf⟩ := DataW.trod_struct hu h
      simp only [Prod.mk.injEq, DataW.agg.injEq] at hx
      obtain ⟨⟨f, y⟩, hmem, hy⟩ := List.exists_of_findSome?_eq_some hl
      split at hy
      · rename_i hr
        obtain ⟨i, hi⟩ := List.mem_iff_getElem?.1 hmem
        rw [List.getElem?_zip_eq_some] at hi
        obtain ⟨hi1, hi2⟩ := hi
        have hfi : fs[i]? = some f := by simpa using hi1
        have h1 := hf i f hfi
        rw [hx.1, List.getElem?_map] at hi2
        cases hxi : xs[i]? with
        | none => simp [hxi] at hi2
        | some z =>
          rw [hxi] at hi2 h1
          simp only [Option.map_some, Option.some.injEq] at hi2
          subst hi2
          dsimp only at hr hy
          have h2 := leaf_cell n (d := z.1) (p := z.2) h1 hy
          rw [List.getElem?_take_of_lt (by omega), List.getElem?_drop] at h2
          rwa [show f.offset + (o - f.offset) = o by omega] at h2
      · cases hy
    · rename_i m' e ds hu
      obtain ⟨xs, m, _, hx, _, hlen, hf⟩ := DataW.trod_array hu h
      simp only [Prod.mk.injEq, DataW.agg.injEq] at hx
      split at hl
      · rename_i hc
        simp only [Option.bind_eq_some_iff] at hl
        obtain ⟨y, hy1, hy2⟩ := hl
        rw [hx.1, List.getElem?_map] at hy1
        cases hxi : xs[o / P.cellsOf e]? with
        | none => simp [hxi] at hy1
        | some z =>
          rw [hxi] at hy1
          simp only [Option.map_some, Option.some.injEq] at hy1
          subst hy1
          have h1 := hf (o / P.cellsOf e) (by rw [← hlen]; exact (List.getElem?_eq_some_iff.1 hxi).1)
          rw [hxi] at h1
          have h2 := leaf_cell n (d := z.1) (p := z.2) h1 hy2
          have hm := Nat.mod_lt o hc
          rw [List.getElem?_take_of_lt hm, List.getElem?_drop] at h2
          rwa [show o / P.cellsOf e * P.cellsOf e + o % P.cellsOf e = o by rw [Nat.mul_comm]; exact Nat.div_add_mod o _] at h2
      · cases hl
    · cases hl

/-- **A LAW's ROW, LIFTED, WHERE VARIABLES ARE LISTED.** -/
theorem law_lifted_laid {C : Checked} {os : Os} {f : FuncId} {fn : Func} {s : ChangeSpec} {conds : List PathCond} {tb : TypeId} {H : Type} {enc : TypeId × Value → H} {laid : List (String × DataW Unit)}
    (own : ownKnob C.prog.godebug = none) (started : os.Started) (noInit : C.prog.inits.idxOf? f = none) (hfn : C.prog.funcs[f]? = some fn)
    (witness : ∃ (w : World) (tape : Tape) (i : Input), w.os = os ∧ (w.forCall tape i).Shaped C.prog ∧ i.vars = [] ∧ Input.okWide C.prog (w.forCall tape i) .any w.heap.size f i ∧
      ((s.pre enc C.prog fn conds false (w.forCall tape i).memory i.args ∧ laidMetH C.prog laid (w.forCall tape i).memory) ∧ sizedMet enc C.prog fn (OpenSpec.ofChange s) false (w.forCall tape i).memory i.args) ∧ Assume.holds {} C.prog (lone (Frame.enter C.prog f i.args .normal) [] (w.forCall tape i)))
    (hl : laidOutB C.prog = true) (hts : fn.params.toList.all (fun t => C.prog.readableRec t && decide (t < C.prog.types.size)) = true) (hv : s.vars = []) (hr : fn.resultTypes = #[tb]) (hbool : C.prog.underlying tb = some .bool)
    (walk : ∀ (W : World) (base : Nat) (args : Array Value) (ds : List (DataW H)) (p : List MemPlace),
      (∀ (j : Nat) t v, fn.params[j]? = some t → args[j]? = some v → Value.okWide C.prog W .any base t v) →
      DataW.TrodAll enc C.prog W 0 (fun _ => true) true fn.params.toList args.toList ds p → (∀ x ∈ p, x.block < W.heap.size) → laidMetH C.prog laid W →
      ((s.fn H ds).results = [.lit (.bool true)] ∧ (s.fn H ds).args = ds ∧ (s.fn H ds).vars = []) ∧ Calls C.prog f args W fun e w' => e = .returned (.bool true) ∧ Below W.heap.size W w') :
    ReturnsInHanded {} C os f .any (fun w args => (s.pre enc C.prog fn conds false w args ∧ laidMetH C.prog laid w) ∧ sizedMet enc C.prog fn (OpenSpec.ofChange s) false w args) (s.post enc C.prog fn false true false false) := by
  refine returnsInHanded_of_change_and (X := fun w _ => laidMetH C.prog laid w) (fun _ _ _ hh h => h.of_heap hh) own started noInit hfn witness ?_
  intro W base args ds gs before hval hW _ _ hL _
  have hW' := hW
  obtain ⟨p, q, hA, hV, hp, hfz, hnd⟩ := hW
  have hlt : ∀ x ∈ p, x.block < W.heap.size := fun x hx => hW'.lt x (by rw [hp]; simp [hx])
  obtain ⟨hsp, hc⟩ := walk W base args ds p hval hA hlt hL
  refine hc.mono fun e W' ⟨he, hb⟩ => ⟨_, he, law_post hl (fun t ht => ?_) hv hr hbool hsp hW' hb⟩
  have := List.all_eq_true.1 hts t ht
  simpa using this
end Go.Proofs.YtpcojaoeahdgcaaGreatDoor

/-
  A layout that came in, opened: its slices as lists.
-/
namespace Go.Proofs.YtpcojaoeahdgcaaGreatDoor
open Go.RowKit Go.WideShapes Go.ChangeShapes Go.ChangeAt Go.Deep

section
variable {H : Type} {enc : TypeId × Value → H} {w : World} {base : Nat} {spare : Nat → Bool} {held : Bool}

theorem add_off (a : Addr) (i : Nat) (h : a.spot = none) : a.add i = ⟨a.block, a.off + i, none⟩ := by
  obtain ⟨b, o, s⟩ := a
  subst h
  unfold Addr.add
  by_cases hi : i = 0
  · simp [hi]
  · simp [hi]

/-- A slice of elements of k cells each, of which each is what an x is told by. -/
theorem open_rows {P : Program} {α : Type} [Inhabited α] {t e : TypeId} {k : Nat} {encA : α → List Value} {Good : α → Prop} {fuel : Nat} {cs : List Value} {x : DataW H × List MemPlace} (ht : P.underlying t = some (.slice e)) (hk : P.cellsOf e = k) (h0 : 0 < k)
    (hx : ∀ (fuel : Nat) (cs : List Value) (y : DataW H × List MemPlace), cs.length = k → DataW.trod enc P w base spare held fuel e cs = some y → ∃ x : α, encA x = cs ∧ Good x)
    (h : DataW.trod enc P w base spare held fuel t cs = some x) :
    ∃ (A : Option Addr) (len cap : Nat) (xs : List α), cs = [.slice A len cap] ∧ xs.length = len ∧ len ≤ cap ∧ cap ≤ 9223372036854775807 ∧ At w k encA A xs ∧ ∀ x ∈ xs, Good x := by
  rcases open_slice ht h with ⟨e, _⟩ | ⟨a, len, cap, m, n, D, Pl, rfl, hb, hl, hm, hmm, _, hi⟩
  · subst e
    exact ⟨none, 0, 0, [], rfl, rfl, by omega, by omega, .inl rfl, fun x hx => by cases hx⟩
  · have hM : maxLen = 9223372036854775807 := rfl
    rw [hM] at hm
    have hlm : len ≤ m := by rw [hmm]; split <;> omega
    have key : ∀ i, i < len → ∃ x : α, (∀ j, j < k → w.cell? (a.add (i * k + j)) = (encA x)[j]?) ∧ (encA x).length = k ∧ Good x := by
      intro i hlt
      obtain ⟨cs', hc, ht'⟩ := hi i (by omega)
      rw [hk] at hc
      obtain ⟨_, hcl, hat⟩ := World.cells?_some hc
      obtain ⟨x, rfl, hg⟩ := hx _ _ _ hcl ht'
      refine ⟨x, fun j hj => ?_, hcl, hg⟩
      rw [← add_add]
      exact hat j hj
    obtain ⟨f, hf⟩ := choose_lt key
    refine ⟨some a, len, cap, (List.range len).map f, rfl, by simp, hl, hm, ?_, fun x hx => ?_⟩
    · by_cases hz : len = 0
      · exact .inl (by simp [hz])
      · have g := (hf 0 (by omega)).1 0 h0
        have hs : 0 < (encA (f 0)).length := by rw [(hf 0 (by omega)).2.1]; exact h0
        rw [List.getElem?_eq_getElem hs] at g
        have hspot : a.spot = none := by
          have := World.cell?_spot g
          simpa [Addr.add] using this
        refine .inr ⟨a.block, a.off, by cases a; simp_all, ?_, fun j x hj i v hv => ?_⟩
        · have := World.block_lt_of_cell? _ _ g
          simpa [Addr.add] using this
        · have hjl : j < len := by
            have := (List.getElem?_eq_some_iff.1 hj).1
            simpa using this
          rw [List.getElem?_map, List.getElem?_range hjl] at hj
          simp only [Option.map_some, Option.some.injEq] at hj
          subst hj
          have hil : i < k := by rw [← (hf j hjl).2.1]; exact (List.getElem?_eq_some_iff.1 hv).1
          have := (hf j hjl).1 i hil
          rw [add_off _ _ hspot, ← Nat.add_assoc] at this
          rw [this, hv]
    · obtain ⟨i, hi, rfl⟩ := List.mem_map.1 hx
      exact (hf i (List.mem_range.1 hi)).2.2

instance : Inhabited Prt := ⟨⟨0, 0⟩⟩
instance : Inhabited Stp := ⟨⟨0, 0, 0⟩⟩
instance : Inhabited Flk := ⟨⟨0, 0, 0, 0⟩⟩
instance : Inhabited Ext' := ⟨⟨0, 0, []⟩⟩
instance : Inhabited (Ext' × Value) := ⟨(⟨0, 0, []⟩, .slice none 0 0)⟩

theorem wf_u8 {x : Int} (h : (Lit.int .u8 x).wf = true) : 0 ≤ x ∧ x ≤ 255 := by
  simp [Lit.wf, IntKind.min, IntKind.max, IntKind.signed, IntKind.bits] at h
  exact ⟨by omega, by omega⟩

theorem read_sec (fuel : Nat) (cs : List Value) (y : DataW H × List MemPlace) (hl : cs.length = 11) (h : DataW.trod enc Tryz.prog w base spare held fuel 73 cs = some y) : ∃ x : Sec, x.enc = cs ∧ (0 ≤ x.k ∧ x.k ≤ 255) := by
  have hc := fun o k => kinds_cells (n := 6) (ks := [.u8, .i64, .i64, .i64, .i64, .i64, .i64, .i64, .i64, .i64, .i64]) h (by kernel_rfl) o k
  match cs, hl with
  | [c0, c1, c2, c3, c4, c5, c6, c7, c8, c9, c10], _ =>
    obtain ⟨z0, e0, wk⟩ := hc 0 _ rfl
    obtain ⟨z1, e1, _⟩ := hc 1 _ rfl
    obtain ⟨z2, e2, _⟩ := hc 2 _ rfl
    obtain ⟨z3, e3, _⟩ := hc 3 _ rfl
    obtain ⟨z4, e4, _⟩ := hc 4 _ rfl
    obtain ⟨z5, e5, _⟩ := hc 5 _ rfl
    obtain ⟨z6, e6, _⟩ := hc 6 _ rfl
    obtain ⟨z7, e7, _⟩ := hc 7 _ rfl
    obtain ⟨z8, e8, _⟩ := hc 8 _ rfl
    obtain ⟨z9, e9, _⟩ := hc 9 _ rfl
    obtain ⟨z10, e10, _⟩ := hc 10 _ rfl
    obtain rfl := Option.some.inj e0
    obtain rfl := Option.some.inj e1
    obtain rfl := Option.some.inj e2
    obtain rfl := Option.some.inj e3
    obtain rfl := Option.some.inj e4
    obtain rfl := Option.some.inj e5
    obtain rfl := Option.some.inj e6
    obtain rfl := Option.some.inj e7
    obtain rfl := Option.some.inj e8
    obtain rfl := Option.some.inj e9
    obtain rfl := Option.some.inj e10
    exact ⟨⟨z0, z1, z2, z3, z4, z5, z6, z7, z8, z9, z10⟩, rfl, wf_u8 wk⟩
theorem read_sig (fuel : Nat) (cs : List Value) (y : DataW H × List MemPlace) (hl : cs.length = 2) (h : DataW.trod enc Tryz.prog w base spare held fuel 56 cs = some y) : ∃ x : Prt, x.enc = cs ∧ True := by
  have hc := fun o k => kinds_cells (n := 6) (ks := [.i64, .i64]) h (by kernel_rfl) o k
  match cs, hl with
  | [c0, c1], _ =>
    obtain ⟨z0, e0, _⟩ := hc 0 _ rfl
    obtain ⟨z1, e1, _⟩ := hc 1 _ rfl
    obtain rfl := Option.some.inj e0
    obtain rfl := Option.some.inj e1
    exact ⟨⟨z0, z1⟩, rfl, trivial⟩
theorem read_step (fuel : Nat) (cs : List Value) (y : DataW H × List MemPlace) (hl : cs.length = 3) (h : DataW.trod enc Tryz.prog w base spare held fuel 47 cs = some y) : ∃ x : Stp, x.enc = cs ∧ True := by
  have hc := fun o k => kinds_cells (n := 6) (ks := [.i64, .i64, .i64]) h (by kernel_rfl) o k
  match cs, hl with
  | [c0, c1, c2], _ =>
    obtain ⟨z0, e0, _⟩ := hc 0 _ rfl
    obtain ⟨z1, e1, _⟩ := hc 1 _ rfl
    obtain ⟨z2, e2, _⟩ := hc 2 _ rfl
    obtain rfl := Option.some.inj e0
    obtain rfl := Option.some.inj e1
    obtain rfl := Option.some.inj e2
    exact ⟨⟨z0, z1, z2⟩, rfl, trivial⟩
theorem read_flank (fuel : Nat) (cs : List Value) (y : DataW H × List MemPlace) (hl : cs.length = 4) (h : DataW.trod enc Tryz.prog w base spare held fuel 100 cs = some y) : ∃ x : Flk, x.enc = cs ∧ True := by
  have hc := fun o k => kinds_cells (n := 6) (ks := [.i64, .i64, .i64, .i64]) h (by kernel_rfl) o k
  match cs, hl with
  | [c0, c1, c2, c3], _ =>
    obtain ⟨z0, e0, _⟩ := hc 0 _ rfl
    obtain ⟨z1, e1, _⟩ := hc 1 _ rfl
    obtain ⟨z2, e2, _⟩ := hc 2 _ rfl
    obtain ⟨z3, e3, _⟩ := hc 3 _ rfl
    obtain rfl := Option.some.inj e0
    obtain rfl := Option.some.inj e1
    obtain rfl := Option.some.inj e2
    obtain rfl := Option.some.inj e3
    exact ⟨⟨z0, z1, z2, z3⟩, rfl, trivial⟩
set_option maxRecDepth 100000 in
theorem read_exit (fuel : Nat) (cs : List Value) (y : DataW H × List MemPlace) (hl : cs.length = 3) (h : DataW.trod enc Tryz.prog w base spare held fuel 51 cs = some y) : ∃ x : Ext' × Value, Ext'.enc x = cs ∧ Sl w 3 Stp.enc x.2 x.1.over := by
  obtain ⟨xs, n, _, _, _, hxl, hf⟩ := DataW.trod_struct Tryz.underlying51 h
  match cs, hl with
  | [c0, c1, c2], _ =>
    have h0 : DataW.trod enc Tryz.prog w base spare held n 49 (List.take (Tryz.prog.cellsOf 49) (List.drop 0 [c0, c1, c2])) = xs[0]? := hf 0 _ rfl
    have h1 : DataW.trod enc Tryz.prog w base spare held n 30 (List.take (Tryz.prog.cellsOf 30) (List.drop 2 [c0, c1, c2])) = xs[1]? := hf 1 _ rfl
    have hs : 0 < xs.length ∧ 1 < xs.length := by rw [hxl]; decide
    rw [List.getElem?_eq_getElem hs.1, show Tryz.prog.cellsOf 49 = 2 by kernel_rfl] at h0
    rw [List.getElem?_eq_getElem hs.2, show Tryz.prog.cellsOf 30 = 1 by kernel_rfl] at h1
    have hc := fun o k => kinds_cells (n := 6) (ks := [.i64, .i64]) h0 (by kernel_rfl) o k
    obtain ⟨z0, e0, _⟩ := hc 0 _ rfl
    obtain ⟨z1, e1, _⟩ := hc 1 _ rfl
    obtain rfl := Option.some.inj e0
    obtain rfl := Option.some.inj e1
    obtain ⟨A, len, cap, ys, e, hl, hlc, hcm, hA, _⟩ := open_rows (k := 3) (encA := Stp.enc) (Good := fun _ => True) Tryz.underlying30 (by kernel_rfl) (by omega) read_step h1
    obtain rfl : c2 = .slice A len cap := by simpa using e
    subst hl
    exact ⟨(⟨z0, z1, ys⟩, .slice A ys.length cap), rfl, A, cap, rfl, hlc, hcm, hA⟩

set_option maxRecDepth 100000 in
theorem open_layout {r : Reach} {b0 : Nat} {v : Value} {d : DataW H} {p : List MemPlace} (hv : Value.okWide Tryz.prog w r b0 29 v) (h : DataW.Trod enc Tryz.prog w base spare held 29 v d p) : ∃ (L : Lay) (q : Where), v = L.val q ∧ LayAt w q L := by
  obtain ⟨cs, rfl, hsz⟩ := okWide_struct Tryz.underlying29 hv
  obtain ⟨l⟩ := cs
  obtain ⟨fuel, hf⟩ := h
  obtain ⟨xs, n, _, _, _, hxl, hf⟩ := DataW.trod_struct Tryz.underlying29 hf
  match l, hsz.trans (show Tryz.prog.cellsOf 29 = 11 by kernel_rfl) with
  | [c0, c1, c2, c3, c4, c5, c6, c7, c8, c9, c10], _ =>
    have h0 : DataW.trod enc Tryz.prog w base spare held n 22 (List.take (Tryz.prog.cellsOf 22) (List.drop 0 [c0, c1, c2, c3, c4, c5, c6, c7, c8, c9, c10])) = xs[0]? := hf 0 _ rfl
    have h1 : DataW.trod enc Tryz.prog w base spare held n 23 (List.take (Tryz.prog.cellsOf 23) (List.drop 1 [c0, c1, c2, c3, c4, c5, c6, c7, c8, c9, c10])) = xs[1]? := hf 1 _ rfl
    have h2 : DataW.trod enc Tryz.prog w base spare held n 24 (List.take (Tryz.prog.cellsOf 24) (List.drop 2 [c0, c1, c2, c3, c4, c5, c6, c7, c8, c9, c10])) = xs[2]? := hf 2 _ rfl
    have h3 : DataW.trod enc Tryz.prog w base spare held n 25 (List.take (Tryz.prog.cellsOf 25) (List.drop 3 [c0, c1, c2, c3, c4, c5, c6, c7, c8, c9, c10])) = xs[3]? := hf 3 _ rfl
    have h4 : DataW.trod enc Tryz.prog w base spare held n 27 (List.take (Tryz.prog.cellsOf 27) (List.drop 4 [c0, c1, c2, c3, c4, c5, c6, c7, c8, c9, c10])) = xs[4]? := hf 4 _ rfl
    have hs : 0 < xs.length ∧ 1 < xs.length ∧ 2 < xs.length ∧ 3 < xs.length ∧ 4 < xs.length := by rw [hxl]; decide
    rw [List.getElem?_eq_getElem hs.1, show Tryz.prog.cellsOf 22 = 1 by kernel_rfl] at h0
    rw [List.getElem?_eq_getElem hs.2.1, show Tryz.prog.cellsOf 23 = 1 by kernel_rfl] at h1
    rw [List.getElem?_eq_getElem hs.2.2.1, show Tryz.prog.cellsOf 24 = 1 by kernel_rfl] at h2
    rw [List.getElem?_eq_getElem hs.2.2.2.1, show Tryz.prog.cellsOf 25 = 1 by kernel_rfl] at h3
    rw [List.getElem?_eq_getElem hs.2.2.2.2, show Tryz.prog.cellsOf 27 = 7 by kernel_rfl] at h4
    obtain ⟨A0, len0, cap0, ys0, e0, hl0, hlc0, hcm0, hA0, hG0⟩ := open_rows (k := 11) (encA := Sec.enc) (Good := fun x => 0 ≤ x.k ∧ x.k ≤ 255) Tryz.underlying22 (by kernel_rfl) (by omega) read_sec h0
    obtain ⟨A1, len1, cap1, ys1, e1, hl1, hlc1, hcm1, hA1, _⟩ := open_rows (k := 2) (encA := Prt.enc) (Good := fun _ => True) Tryz.underlying23 (by kernel_rfl) (by omega) read_sig h1
    obtain ⟨A2, len2, cap2, ys2, e2, hl2, hlc2, hcm2, hA2, hG2⟩ := open_rows (k := 3) (encA := Ext'.enc) (Good := fun x => Sl w 3 Stp.enc x.2 x.1.over) Tryz.underlying24 (by kernel_rfl) (by omega) read_exit h2
    obtain ⟨A3, len3, cap3, ys3, e3, hl3, hlc3, hcm3, hA3, _⟩ := open_rows (k := 4) (encA := Flk.enc) (Good := fun _ => True) Tryz.underlying25 (by kernel_rfl) (by omega) read_flank h3
    obtain rfl : c0 = .slice A0 len0 cap0 := by simpa using e0
    obtain rfl : c1 = .slice A1 len1 cap1 := by simpa using e1
    obtain rfl : c2 = .slice A2 len2 cap2 := by simpa using e2
    obtain rfl : c3 = .slice A3 len3 cap3 := by simpa using e3
    have hc := fun o k => kinds_cells (n := 6) (ks := [.i64, .i64, .i64, .i64, .i64, .i64, .i64]) h4 (by kernel_rfl) o k
    obtain ⟨z0, f0, _⟩ := hc 0 _ rfl
    obtain ⟨z1, f1, _⟩ := hc 1 _ rfl
    obtain ⟨z2, f2, _⟩ := hc 2 _ rfl
    obtain ⟨z3, f3, _⟩ := hc 3 _ rfl
    obtain ⟨z4, f4, _⟩ := hc 4 _ rfl
    obtain ⟨z5, f5, _⟩ := hc 5 _ rfl
    obtain ⟨z6, f6, _⟩ := hc 6 _ rfl
    obtain rfl := Option.some.inj f0
    obtain rfl := Option.some.inj f1
    obtain rfl := Option.some.inj f2
    obtain rfl := Option.some.inj f3
    obtain rfl := Option.some.inj f4
    obtain rfl := Option.some.inj f5
    obtain rfl := Option.some.inj f6
    subst hl0 hl1 hl2 hl3
    refine ⟨⟨ys0, ys1, ys2.map (·.1), ys3, z0, z1, z2, z3, z4, z5, z6⟩, ⟨A0, A1, A2, A3, cap0, cap1, cap2, cap3⟩, ?_, hA0, hA1, ⟨ys2, rfl, hA2, hG2⟩, hA3, ⟨hlc0, hcm0⟩, ⟨hlc1, hcm1⟩, ⟨by simpa using hlc2, hcm2⟩, ⟨hlc3, hcm3⟩, hG0⟩
    simp [Lay.val]
end
end Go.Proofs.YtpcojaoeahdgcaaGreatDoor

/-
  route.pairs: the iterator over steps and the ones ahead of them.
-/
namespace Go.Proofs.YtpcojaoeahdgcaaGreatDoor
open Go.RowKit Go.Shelf
attribute [local go_sem] Oper.semAt_some

def rprs (n : Nat) : List Nat := List.range' 1 n
theorem rprs_succ (n : Nat) : rprs (n + 1) = rprs n ++ [n + 1] := by
  unfold rprs
  rw [List.range'_1_concat]
  congr 2
  omega
theorem rprs_pre {i j : Nat} (h : i ≤ j) : rprs i <+: rprs j := by
  induction h with
  | refl => exact List.prefix_rfl
  | step _ ih => rw [rprs_succ]; exact ih.trans (List.prefix_append _ _)
theorem rprs_len (n : Nat) : (rprs n).length = n := by unfold rprs; simp
def stpV (x : Stp) : Value := .agg #[.int .i64 x.s, .int .i64 x.i, .int .i64 x.o]
def pairV (xs : List Stp) (k : Nat) : Array Value := #[stpV (xs.getD (k - 1) default), stpV (xs.getD k default)]

theorem pairs_fn (A : Option Addr) (n cap : Nat) (w : World) :
    Calls Tryz.prog 26 #[.slice A n cap] w fun e w' => e = .returned (.func (.func 44) #[] #[.pointer (some ⟨w.heap.size, 0, none⟩)]) ∧ w' = w.alloc (.cells #[.slice A n cap] 30) := by
  go_enter Tryz.func26, Tryz.ntmps26
  go_wp2
  go_ret
  exact ⟨rfl, rfl⟩

set_option maxRecDepth 100000 in
set_option maxHeartbeats 16000000 in
theorem pairs1_in (l Bl n₀ : Nat) (A : Option Addr) (cap : Nat) (xs : List Stp) (J Jx : List Nat → World → Prop) (W : World) (hJ : AbidesFrom W.heap.size J)
    (hY : ∀ pre x W1, J pre W1 → pre.length < (rprs (xs.length - 1)).length → YieldAt Fence.wide 3 Tryz.prog l (pairV xs x) W1 fun e W' =>
      (e = .returned (.bool true) ∧ J (pre ++ [x]) W' ∧ KeepsE NoB NoT n₀ W1 W') ∨ (e = .returned (.bool false) ∧ Jx (pre ++ [x]) W'))
    (hA : At W 3 Stp.enc A xs) (hm : xs.length ≤ 9223372036854775807) (cB : W.cell? ⟨Bl, 0, none⟩ = some (.slice A xs.length cap)) (hJ0 : J [] W) :
    CallsIn Fence.wide 4 Tryz.prog 44 #[.func (.yield l) #[] #[], .pointer (some ⟨Bl, 0, none⟩)] W fun e W' => (∃ v, e = .returned v) ∧
      ((∃ ys, ys = rprs (xs.length - 1) ∧ J ys W') ∨ (∃ pre, (pre <+: rprs (xs.length - 1)) ∧ Jx pre W')) := by
  have hJg : ∀ s (X Y : World), W.heap.size ≤ X.heap.size → J s X → Below X.heap.size X Y → J s Y := fun s X Y _ hx hb => hJ s X Y none hx ⟨hb.os, hb.tape, hb.output, hb.size, fun k' hk' _ => hb.block k' hk'⟩ (fun r e => by cases e)
  have HALL := Lib.hid (⟨hA, cB⟩ : _ ∧ _)
  have HJ := Lib.hid hJg
  have HY := Lib.hid hY
  obtain ⟨len, hlen⟩ : ∃ len, len = xs.length := ⟨_, rfl⟩
  rw [← hlen] at hm HALL HY ⊢
  have HLEN := Lib.hid hlen
  clear hA cB hJg hJ hY hlen
  refine callsIn_of_wp Tryz.func44 rfl trivial ?_ rfl
  simp only [Tryz.ntmps44, List.size_toArray, List.length_cons, List.length_nil, Nat.reduceAdd, Nat.reduceSub, Array.replicate_succ, Array.replicate_zero, List.push_toArray, List.append_toArray, List.nil_append, List.cons_append]
  gi_wp2_with fail
  gi_loopw [3] (fun c wr => ∃ m : Nat, (m = 0 ∨ m + 1 ≤ len) ∧ c = .int .i64 (m + 1 : Nat) ∧ Hid (J (rprs m) wr) ∧ Hid (Kept W wr)) (fun c _ => len + 1 - (intOf c).toNat)
  case atStart => exact ⟨0, .inl rfl, rfl, Lib.hid hJ0, Lib.hid (Kept.refl _)⟩
  case round =>
    obtain ⟨m, hi, rfl, HJi, HKi⟩ := hrel
    clear hJ0
    obtain ⟨k, hk1⟩ : ∃ k, k = m + 1 := ⟨_, rfl⟩
    rw [← hk1]
    have HK1 := Lib.hid hk1
    have cB0 := HKi.out.cell _ _ _ HALL.out.2
    have cB : ∀ V, ClB wr V → V.cell? ⟨Bl, 0, none⟩ = some (.slice A len cap) := fun V h => (h.cell (p := ⟨Bl, 0, none⟩) (World.block_lt_of_cell? _ _ cB0)).trans cB0
    by_cases hlt : k < len
    · have hd : decide ((k : Int) < (len : Int)) = true := decide_eq_true (by omega)
      have hsub : (k : Int) - 1 = (m : Int) := by omega
      have hwm : IntKind.wrap .i64 (m : Int) = (m : Int) := by rw [IntKind.wrap_i64]; omega
      have hml : m < len := by omega
      have hkl := hlt
      obtain ⟨b, off, e0, hrow⟩ := (HALL.out.1.kept HKi.out).get (show m < xs.length by rw [← HLEN.out]; omega)
      subst e0
      obtain ⟨x, hx⟩ : ∃ x, xs[m]? = some x := ⟨_, List.getElem?_eq_getElem (by rw [← HLEN.out]; omega)⟩
      obtain ⟨y, hy⟩ : ∃ y, xs[k]? = some y := ⟨_, List.getElem?_eq_getElem (by rw [← HLEN.out]; omega)⟩
      have pv : pairV xs k = #[.agg #[.int .i64 x.s, .int .i64 x.i, .int .i64 x.o], .agg #[.int .i64 y.s, .int .i64 y.i, .int .i64 y.o]] := by
        unfold pairV stpV
        rw [show k - 1 = m by omega, List.getD_eq_getElem?_getD, hx, List.getD_eq_getElem?_getD, hy]
        rfl
      obtain ⟨xs0, xs1, xs2⟩ := x
      obtain ⟨ys0, ys1, ys2⟩ := y
      dsimp only at pv
      have hbw := hrow.1
      have x0 : ∀ V, ClB wr V → V.cell? ⟨b, off + m * 3, none⟩ = some (.int .i64 xs0) := fun V h => (h.cell (p := ⟨b, off + m * 3, none⟩) hbw).trans (hrow.2 m _ hx 0 _ rfl)
      have x1 : ∀ V, ClB wr V → V.cell? ⟨b, off + m * 3 + 1, none⟩ = some (.int .i64 xs1) := fun V h => (h.cell (p := ⟨b, off + m * 3 + 1, none⟩) hbw).trans (hrow.2 m _ hx 1 _ rfl)
      have x2 : ∀ V, ClB wr V → V.cell? ⟨b, off + m * 3 + 2, none⟩ = some (.int .i64 xs2) := fun V h => (h.cell (p := ⟨b, off + m * 3 + 2, none⟩) hbw).trans (hrow.2 m _ hx 2 _ rfl)
      have y0 : ∀ V, ClB wr V → V.cell? ⟨b, off + k * 3, none⟩ = some (.int .i64 ys0) := fun V h => (h.cell (p := ⟨b, off + k * 3, none⟩) hbw).trans (hrow.2 k _ hy 0 _ rfl)
      have y1 : ∀ V, ClB wr V → V.cell? ⟨b, off + k * 3 + 1, none⟩ = some (.int .i64 ys1) := fun V h => (h.cell (p := ⟨b, off + k * 3 + 1, none⟩) hbw).trans (hrow.2 k _ hy 1 _ rfl)
      have y2 : ∀ V, ClB wr V → V.cell? ⟨b, off + k * 3 + 2, none⟩ = some (.int .i64 ys2) := fun V h => (h.cell (p := ⟨b, off + k * 3 + 2, none⟩) hbw).trans (hrow.2 k _ hy 2 _ rfl)
      have pp := rprs_pre (show m + 1 ≤ len - 1 by omega)
      have pe := rprs_succ m
      have HPP := Lib.hid (⟨pe, pv, pp⟩ : _ ∧ _ ∧ _)
      clear hx hy pv pp pe hrow hi
      refine wpIn_seq_k fun K1 hK1 => ?_
      have HKK1 := Lib.hid hK1
      clear hK1
      refine wpIn_seq_k fun K2 hK2 => ?_
      have HKK2 := Lib.hid hK2
      clear hK2
      refine wpIn_region_rel_head (.inl rfl) 15 [([(3, none)], none), ([(1, none)], none), ([(5, some 0)], none), ([(4, some 2), (6, some 0)], none), ([(7, some 0)], none), ([(0, none), (8, some 0)], some (8, true)), ([(1, none), (8, some 1)], some (8, true)), ([(3, none), (8, some 2)], some (8, true)), ([(11, some 0), (8, some 3)], some (8, true)), ([(10, some 2), (12, some 0), (8, some 4)], some (8, true)), ([(13, some 0), (8, some 5)], some (8, true)), ([(1, none), (8, some 6)], some (8, true)), ([(3, none), (8, some 7)], some (8, true)), ([(15, some 1), (16, some 0), (8, some 8)], some (8, true)), ([(17, some 0), (8, some 9)], some (8, true))] [(0, 18), (4, 14), (9, 9), (10, 8)] (by kernel_rfl) (by kernel_rfl) (by kernel_rfl) (by kernel_rfl) (by kernel_rfl) (by kernel_rfl) (by kernel_rfl) (by kernel_rfl) ?_
      simp only [List.take_succ_cons, List.take_zero, List.drop_succ_cons, List.drop_zero]
      refine ob_det (c := .int .i64 (k : Nat)) ?_ ?_
      · intro ρ W hk hC
        simp only [seen, obOp]
        rintro h3
        replace h3 : ρ (.tmp 3) = .int .i64 (k : Nat) := h3.trans rfl
        exact rel_value (by simp [go_sem, h3]) hC
      refine ob_det (c := .slice (some ⟨b, off, none⟩) len cap) ?_ ?_
      · intro ρ W hk hC
        simp only [seen, obOp]
        rintro h1
        replace h1 : ρ (.tmp 1) = .pointer (some ⟨Bl, 0, none⟩) := h1.trans rfl
        exact rel_value (by simp [go_sem, h1, cB W hC]) hC
      refine ob_det (c := .int .i64 (len : Nat)) ?_ ?_
      · intro ρ W hk hC
        simp only [seen, obOp, List.getD_cons_zero]
        rintro h5
        exact rel_value (by simp [go_sem, h5]) hC
      refine ob_det (c := .bool true) ?_ ?_
      · intro ρ W hk hC
        simp only [seen, obOp, List.getD_cons_zero, List.getD_cons_succ]
        rintro h4 h6
        exact rel_value (by simp [go_sem, h4, h6, hlt]) hC
      refine ob_det (c := .bool true) ?_ ?_
      · intro ρ W hk hC
        simp only [seen, obOp, List.getD_cons_zero]
        rintro h7
        exact rel_value (by simp [go_sem, h7]) hC
      refine ob_det (c := .func (.yield l) #[] #[]) ?_ ?_
      · intro ρ W hk hC
        simp only [seen, obOp, List.getD_cons_zero]
        rintro h0 h8
        replace h0 : ρ (.tmp 0) = .func (.yield l) #[] #[] := h0.trans rfl
        refine ⟨fun _ => ?_, fun hn => absurd h8 hn⟩
        exact rel_value (by simp [go_sem, h0]) hC
      refine ob_det (c := .slice (some ⟨b, off, none⟩) len cap) ?_ ?_
      · intro ρ W hk hC
        simp only [seen, obOp, List.getD_cons_zero, List.getD_cons_succ]
        rintro h1 h8
        replace h1 : ρ (.tmp 1) = .pointer (some ⟨Bl, 0, none⟩) := h1.trans rfl
        refine ⟨fun _ => ?_, fun hn => absurd h8 hn⟩
        exact rel_value (by simp [go_sem, h1, cB W hC]) hC
      refine ob_det (c := .int .i64 (k : Nat)) ?_ ?_
      · intro ρ W hk hC
        simp only [seen, obOp, List.getD_cons_zero, List.getD_cons_succ]
        rintro h3 h8
        replace h3 : ρ (.tmp 3) = .int .i64 (k : Nat) := h3.trans rfl
        refine ⟨fun _ => ?_, fun hn => absurd h8 hn⟩
        exact rel_value (by simp [go_sem, h3]) hC
      refine ob_det (c := .int .i64 (m : Nat)) ?_ ?_
      · intro ρ W hk hC
        simp only [seen, obOp, List.getD_cons_zero, List.getD_cons_succ]
        rintro h11 h8
        refine ⟨fun _ => ?_, fun hn => absurd h8 hn⟩
        exact rel_value (by simp [go_sem, h11, hk.const, hsub, hwm]) hC
      refine ob_det (c := .pointer (some ⟨b, off + m * 3, none⟩)) ?_ ?_
      · intro ρ W hk hC
        simp only [seen, obOp, List.getD_cons_zero, List.getD_cons_succ]
        rintro h10 h12 h8
        refine ⟨fun _ => ?_, fun hn => absurd h8 hn⟩
        exact rel_value (by simp [go_sem, h10, h12, hml]) hC
      refine ob_det (c := .agg #[.int .i64 xs0, .int .i64 xs1, .int .i64 xs2]) ?_ ?_
      · intro ρ W hk hC
        simp only [seen, obOp, List.getD_cons_zero, List.getD_cons_succ]
        rintro h13 h8
        refine ⟨fun _ => ?_, fun hn => absurd h8 hn⟩
        exact rel_value (by simp [go_sem, h13, x0 W hC, x1 W hC, x2 W hC]) hC
      refine ob_det (c := .slice (some ⟨b, off, none⟩) len cap) ?_ ?_
      · intro ρ W hk hC
        simp only [seen, obOp, List.getD_cons_zero, List.getD_cons_succ]
        rintro h1 h8
        replace h1 : ρ (.tmp 1) = .pointer (some ⟨Bl, 0, none⟩) := h1.trans rfl
        refine ⟨fun _ => ?_, fun hn => absurd h8 hn⟩
        exact rel_value (by simp [go_sem, h1, cB W hC]) hC
      refine ob_det (c := .int .i64 (k : Nat)) ?_ ?_
      · intro ρ W hk hC
        simp only [seen, obOp, List.getD_cons_zero, List.getD_cons_succ]
        rintro h3 h8
        replace h3 : ρ (.tmp 3) = .int .i64 (k : Nat) := h3.trans rfl
        refine ⟨fun _ => ?_, fun hn => absurd h8 hn⟩
        exact rel_value (by simp [go_sem, h3]) hC
      refine ob_det (c := .pointer (some ⟨b, off + k * 3, none⟩)) ?_ ?_
      · intro ρ W hk hC
        simp only [seen, obOp, List.getD_cons_zero, List.getD_cons_succ]
        rintro h15 h16 h8
        refine ⟨fun _ => ?_, fun hn => absurd h8 hn⟩
        exact rel_value (by simp [go_sem, h15, h16, hkl]) hC
      refine ob_det (c := .agg #[.int .i64 ys0, .int .i64 ys1, .int .i64 ys2]) ?_ ?_
      · intro ρ W hk hC
        simp only [seen, obOp, List.getD_cons_zero, List.getD_cons_succ]
        rintro h17 h8
        refine ⟨fun _ => ?_, fun hn => absurd h8 hn⟩
        exact rel_value (by simp [go_sem, h17, y0 W hC, y1 W hC, y2 W hC]) hC
      intro vs w5 hC5
      simp only [endSeen, List.getD_cons_zero, List.getD_cons_succ]
      intro h18 h14 h9 h8
      simp only [writeAll, List.setIfInBounds_toArray, List.set_cons_zero, List.set_cons_succ, h8, h9, h14, h18]
      have J5 := HJ.out _ _ _ HKi.out.size HJi.out hC5
      obtain ⟨fn, tmps, assign, body, hyy, hR⟩ := HY.out _ k w5 J5 (by rw [rprs_len, rprs_len]; omega)
      rw [HPP.out.2.1] at hyy
      gi_wp2
      refine hR.mono ?_
      rintro e W3 (⟨rfl, hJ3, hk3⟩ | ⟨rfl, hJx3⟩)
      · have H3 := Lib.hid (⟨hJ3, (HKi.out.trans (.of_below hC5)).trans (.of_keeps hk3)⟩ : _ ∧ _)
        clear hJ3 hk3
        gi_wp2
        refine HKK2.out _ _ ?_
        gi_wp2
        refine HKK1.out _ _ ?_
        gi_wp2
        go_roundw
        case rel => exact ⟨m + 1, .inr (by omega), by go_num, Lib.hid (by rw [HPP.out.1, ← HK1.out]; exact H3.out.1), Lib.hid H3.out.2⟩
        case measure => simp [intOf]; omega
      · gi_wp2
        refine HKK2.out _ _ ?_
        gi_wp2
        go_end0
        exact ⟨⟨_, rfl⟩, .inr ⟨_, by rw [HK1.out, ← HPP.out.1]; exact HPP.out.2.2, hJx3⟩⟩
    · have hd : decide ((k : Int) < (len : Int)) = false := decide_eq_false (by omega)
      have HCB := Lib.hid cB
      refine wpIn_seq_k fun K1 hK1 => ?_
      have HKK1 := Lib.hid hK1
      clear hK1
      refine wpIn_seq_k fun K2 hK2 => ?_
      have HKK2 := Lib.hid hK2
      clear hK2
      refine wpIn_region_rel_below (.inl rfl) [([(3, none)], none), ([(1, none)], none), ([(5, some 0)], none), ([(4, some 2), (6, some 0)], none), ([(7, some 0)], none), ([(0, none), (8, some 0)], some (8, true)), ([(1, none), (8, some 1)], some (8, true)), ([(3, none), (8, some 2)], some (8, true)), ([(11, some 0), (8, some 3)], some (8, true)), ([(10, some 2), (12, some 0), (8, some 4)], some (8, true)), ([(13, some 0), (8, some 5)], some (8, true)), ([(1, none), (8, some 6)], some (8, true)), ([(3, none), (8, some 7)], some (8, true)), ([(15, some 1), (16, some 0), (8, some 8)], some (8, true)), ([(17, some 0), (8, some 9)], some (8, true)), ([(9, some 9), (14, some 4), (18, some 0), (8, some 10)], some (8, true)), ([(8, some 11), (19, some 0)], none)] [(0, 20)] (by kernel_rfl) (by kernel_rfl) (by kernel_rfl) ?_
      refine ob_det (c := .int .i64 (k : Nat)) ?_ ?_
      · intro ρ W hk hC
        simp only [seen, obOp]
        rintro h3
        replace h3 : ρ (.tmp 3) = .int .i64 (k : Nat) := h3.trans rfl
        exact rel_value (by simp [go_sem, h3]) hC
      refine ob_det (c := .slice A len cap) ?_ ?_
      · intro ρ W hk hC
        simp only [seen, obOp]
        rintro h1
        replace h1 : ρ (.tmp 1) = .pointer (some ⟨Bl, 0, none⟩) := h1.trans rfl
        exact rel_value (by simp [go_sem, h1, cB W hC]) hC
      refine ob_det (c := .int .i64 (len : Nat)) ?_ ?_
      · intro ρ W hk hC
        simp only [seen, obOp, List.getD_cons_zero]
        rintro h5
        exact rel_value (by simp [go_sem, h5]) hC
      refine ob_det (c := .bool false) ?_ ?_
      · intro ρ W hk hC
        simp only [seen, obOp, List.getD_cons_zero, List.getD_cons_succ]
        rintro h4 h6
        exact rel_value (by simp [go_sem, h4, h6, hlt]) hC
      refine ob_det (c := .bool false) ?_ ?_
      · intro ρ W hk hC
        simp only [seen, obOp, List.getD_cons_zero]
        rintro h7
        exact rel_value (by simp [go_sem, h7]) hC
      refine ob_det (c := undef) ?_ ?_
      · intro ρ W hk hC
        simp only [seen, obOp, List.getD_cons_zero]
        rintro h0 h8
        replace h0 : ρ (.tmp 0) = .func (.yield l) #[] #[] := h0.trans rfl
        exact ⟨fun h => absurd (h.symm.trans h8) (by first | simp | simp [undef]), fun _ => by trivial⟩
      refine ob_det (c := undef) ?_ ?_
      · intro ρ W hk hC
        simp only [seen, obOp, List.getD_cons_zero, List.getD_cons_succ]
        rintro h1 h8
        replace h1 : ρ (.tmp 1) = .pointer (some ⟨Bl, 0, none⟩) := h1.trans rfl
        exact ⟨fun h => absurd (h.symm.trans h8) (by first | simp | simp [undef]), fun _ => by trivial⟩
      refine ob_det (c := undef) ?_ ?_
      · intro ρ W hk hC
        simp only [seen, obOp, List.getD_cons_zero, List.getD_cons_succ]
        rintro h3 h8
        replace h3 : ρ (.tmp 3) = .int .i64 (k : Nat) := h3.trans rfl
        exact ⟨fun h => absurd (h.symm.trans h8) (by first | simp | simp [undef]), fun _ => by trivial⟩
      refine ob_det (c := undef) ?_ ?_
      · intro ρ W hk hC
        simp only [seen, obOp, List.getD_cons_zero, List.getD_cons_succ]
        rintro h11 h8
        exact ⟨fun h => absurd (h.symm.trans h8) (by first | simp | simp [undef]), fun _ => by trivial⟩
      refine ob_det (c := undef) ?_ ?_
      · intro ρ W hk hC
        simp only [seen, obOp, List.getD_cons_zero, List.getD_cons_succ]
        rintro h10 h12 h8
        exact ⟨fun h => absurd (h.symm.trans h8) (by first | simp | simp [undef]), fun _ => by trivial⟩
      refine ob_det (c := undef) ?_ ?_
      · intro ρ W hk hC
        simp only [seen, obOp, List.getD_cons_zero, List.getD_cons_succ]
        rintro h13 h8
        exact ⟨fun h => absurd (h.symm.trans h8) (by first | simp | simp [undef]), fun _ => by trivial⟩
      refine ob_det (c := undef) ?_ ?_
      · intro ρ W hk hC
        simp only [seen, obOp, List.getD_cons_zero, List.getD_cons_succ]
        rintro h1 h8
        replace h1 : ρ (.tmp 1) = .pointer (some ⟨Bl, 0, none⟩) := h1.trans rfl
        exact ⟨fun h => absurd (h.symm.trans h8) (by first | simp | simp [undef]), fun _ => by trivial⟩
      refine ob_det (c := undef) ?_ ?_
      · intro ρ W hk hC
        simp only [seen, obOp, List.getD_cons_zero, List.getD_cons_succ]
        rintro h3 h8
        replace h3 : ρ (.tmp 3) = .int .i64 (k : Nat) := h3.trans rfl
        exact ⟨fun h => absurd (h.symm.trans h8) (by first | simp | simp [undef]), fun _ => by trivial⟩
      refine ob_det (c := undef) ?_ ?_
      · intro ρ W hk hC
        simp only [seen, obOp, List.getD_cons_zero, List.getD_cons_succ]
        rintro h15 h16 h8
        exact ⟨fun h => absurd (h.symm.trans h8) (by first | simp | simp [undef]), fun _ => by trivial⟩
      refine ob_det (c := undef) ?_ ?_
      · intro ρ W hk hC
        simp only [seen, obOp, List.getD_cons_zero, List.getD_cons_succ]
        rintro h17 h8
        exact ⟨fun h => absurd (h.symm.trans h8) (by first | simp | simp [undef]), fun _ => by trivial⟩
      refine ob_det (c := undef) ?_ ?_
      · intro ρ W hk hC
        simp only [seen, obOp, List.getD_cons_zero, List.getD_cons_succ]
        rintro h9 h14 h18 h8
        exact ⟨fun h => absurd (h.symm.trans h8) (by first | simp | simp [undef]), fun _ => by trivial⟩
      refine ob_det (c := .bool false) ?_ ?_
      · intro ρ W hk hC
        simp only [seen, obOp, List.getD_cons_zero, List.getD_cons_succ]
        rintro h8 h19
        exact rel_value (by simp [go_sem, h8, h19, hk.const]) hC
      intro vs w5 hC5
      simp only [endSeen, List.getD_cons_zero]
      intro h20
      simp only [writeAll, List.setIfInBounds_toArray, List.set_cons_zero, List.set_cons_succ, h20]
      have J5 := HJ.out _ _ _ HKi.out.size HJi.out hC5
      refine HKK2.out _ _ ?_
      gi_wp2
      go_end0
      exact ⟨⟨_, rfl⟩, .inl ⟨_, by rw [show len - 1 = m by omega], J5⟩⟩

theorem pairs_stops (Bl : Nat) (A : Option Addr) (cap : Nat) (xs : List Stp) (w : World) (hA : At w 3 Stp.enc A xs) (hm : xs.length ≤ 9223372036854775807) (cB : w.cell? ⟨Bl, 0, none⟩ = some (.slice A xs.length cap)) :
    SeqStopsK Fence.wide 4 Tryz.prog 44 #[.pointer (some ⟨Bl, 0, none⟩)] (pairV xs) (KeepsE NoB NoT w.heap.size) (fun ys => ys = rprs (xs.length - 1)) (fun pre => pre <+: rprs (xs.length - 1)) (rprs (xs.length - 1)).length w := by
  intro l J Jx W hW hJ _ hY hJ0
  exact pairs1_in l Bl w.heap.size A cap xs J Jx W hJ hY (hA.below hW) hm ((hW.cell (p := ⟨Bl, 0, none⟩) (World.block_lt_of_cell? _ _ cB)).trans cB) hJ0
end Go.Proofs.YtpcojaoeahdgcaaGreatDoor

/-
  join.ports: the iterator over a section's ports and what lies beyond.
-/
namespace Go.Proofs.YtpcojaoeahdgcaaGreatDoor
open Go.RowKit Go.Shelf
attribute [local go_sem] Oper.semAt_some

theorem JEnd.kept {W W' : World} (h : JEnd W) (k : Kept W W') : JEnd W' := ⟨k.cell _ _ _ h.c0, k.cell _ _ _ h.c1⟩
theorem BoxL.kept {W W' : World} {g : Nat} {L : Lay} {p : Where} (h : BoxL W g L p) (hb : Kept W W') : BoxL W' g L p := ⟨Nat.lt_of_lt_of_le h.1 hb.size, fun i v hv => hb.cell _ _ _ (h.2 i v hv)⟩
/-- The ports of a section, of the first i. -/
def pj (L : Lay) (s : Int) : Nat → List Nat
  | 0 => []
  | i + 1 => pj L s i ++ (if hasB L s (i : Nat) then [i] else [])
theorem pj_pre {L : Lay} {s : Int} {i j : Nat} (h : i ≤ j) : pj L s i <+: pj L s j := by
  induction h with
  | refl => exact List.prefix_rfl
  | step _ ih => exact ih.trans (List.prefix_append _ _)
def pjV (L : Lay) (s : Int) (i : Nat) : Array Value := #[.agg #[.int .i64 s, .int .i64 (i : Nat)], .agg #[.int .i64 (beyL L s i).s, .int .i64 (beyL L s i).p]]

theorem jports_fn (L : Lay) (P : Where) (s : Int) (w : World) :
    Calls Tryz.prog 105 #[L.val P, .int .i64 s] w fun e w' => e = .returned (.func (.func 109) #[] #[.pointer (some ⟨w.heap.size + 1, 0, none⟩), .pointer (some ⟨w.heap.size, 0, none⟩)]) ∧ w' = (w.alloc (.cells (L.cells P).toArray 29)).alloc (.cells #[.int .i64 s] 3) := by
  unfold Lay.val Lay.cells
  go_enter Tryz.func105, Tryz.ntmps105
  go_wp2
  go_ret
  exact ⟨rfl, rfl⟩

set_option maxRecDepth 100000 in
set_option maxHeartbeats 16000000 in
theorem jports1_in (l Bs Bl n₀ : Nat) (s : Int) (L : Lay) (P : Where) (J Jx : List Nat → World → Prop) (W : World) (hJ : AbidesFrom W.heap.size J)
    (hY : ∀ pre x W1, J pre W1 → pre.length < (pj L s 4).length → YieldAt Fence.wide 3 Tryz.prog l (pjV L s x) W1 fun e W' =>
      (e = .returned (.bool true) ∧ J (pre ++ [x]) W' ∧ KeepsE NoB NoT n₀ W1 W') ∨ (e = .returned (.bool false) ∧ Jx (pre ++ [x]) W'))
    (hL : LayAt W P L) (hB : BoxL W Bl L P) (hK : Kinds W) (hE : JEnd W) (cs : W.cell? ⟨Bs, 0, none⟩ = some (.int .i64 s)) (hJ0 : J [] W) :
    CallsIn Fence.wide 4 Tryz.prog 109 #[.func (.yield l) #[] #[], .pointer (some ⟨Bs, 0, none⟩), .pointer (some ⟨Bl, 0, none⟩)] W fun e W' => (∃ v, e = .returned v) ∧
      ((∃ ys, ys = pj L s 4 ∧ J ys W') ∨ (∃ pre, (pre <+: pj L s 4) ∧ Jx pre W')) := by
  have hJg : ∀ s (X Y : World), W.heap.size ≤ X.heap.size → J s X → Below X.heap.size X Y → J s Y := fun s X Y _ hx hb => hJ s X Y none hx ⟨hb.os, hb.tape, hb.output, hb.size, fun k' hk' _ => hb.block k' hk'⟩ (fun r e => by cases e)
  have HALL := Lib.hid (⟨hL, hB, hK, hE, cs⟩ : _ ∧ _ ∧ _ ∧ _ ∧ _)
  have HJ := Lib.hid hJg
  have HY := Lib.hid hY
  clear hL hB hK hE cs hJg hJ hY
  refine callsIn_of_wp Tryz.func109 rfl trivial ?_ rfl
  simp only [Tryz.ntmps109, List.size_toArray, List.length_cons, List.length_nil, Nat.reduceAdd, Nat.reduceSub, Array.replicate_succ, Array.replicate_zero, List.push_toArray, List.append_toArray, List.nil_append, List.cons_append]
  gi_wp2_with fail
  gi_loopw [6] (fun c wr => ∃ i : Nat, i ≤ 4 ∧ c = .int .i64 i ∧ Hid (J (pj L s i) wr) ∧ Hid (Kept W wr)) (fun c _ => 4 - (intOf c).toNat)
  case atStart => exact ⟨0, by omega, rfl, Lib.hid hJ0, Lib.hid (Kept.refl _)⟩
  case round =>
    obtain ⟨i, hi, rfl, HJi, HKi⟩ := hrel
    clear hJ0
    by_cases hlt : i < 4
    · have cs := HKi.out.cell _ _ _ HALL.out.2.2.2.2
      have hlt4 : (i : Int) < 4 := by omega
      obtain ⟨U, hU⟩ : ∃ U, U = wr.alloc (.cells #[.int .i64 s, .int .i64 (i : Nat)] 49) := ⟨_, rfl⟩
      have hUB : Below wr.heap.size wr U := by rw [hU]; exact bself
      have y0 : ∀ V, ClB U V → V.cell? ⟨wr.heap.size, 0, none⟩ = some (.int .i64 s) := fun V h => (h.cell (p := ⟨wr.heap.size, 0, none⟩) (by rw [hU]; simp)).trans (by rw [hU]; simp [go_sem])
      have y1 : ∀ V, ClB U V → V.cell? ⟨wr.heap.size, 1, none⟩ = some (.int .i64 (i : Nat)) := fun V h => (h.cell (p := ⟨wr.heap.size, 1, none⟩) (by rw [hU]; simp)).trans (by rw [hU]; simp [go_sem])
      have kU : Kept W U := HKi.out.trans (.of_below hUB)
      have HKU := Lib.hid kU
      have HBX := Lib.hid (HALL.out.2.1.kept kU)
      have hh : ∀ V, ClB U V → _ := fun V h => hasJ_any L P s (i : Nat) V ((HALL.out.1.kept kU).below h) ((HALL.out.2.2.1.kept kU).below h)
      have hz : ∀ V, ClB U V → _ := fun V h => beyJ_any L P s (i : Nat) V ((HALL.out.1.kept kU).below h) ((HALL.out.2.2.1.kept kU).below h) ((HALL.out.2.2.2.1.kept kU).below h)
      have HJU := Lib.hid (HJ.out _ _ _ HKi.out.size HJi.out hUB)
      have pe : pj L s (i + 1) = pj L s i ++ (if hasB L s (i : Nat) then [i] else []) := rfl
      have pv : pjV L s i = #[.agg #[.int .i64 s, .int .i64 (i : Nat)], .agg #[.int .i64 (beyL L s i).s, .int .i64 (beyL L s i).p]] := rfl
      have pp := pj_pre (L := L) (s := s) (show i + 1 ≤ 4 by omega)
      generalize beyL L s (i : Nat) = z at hz pv
      obtain ⟨zs, zp⟩ := z
      dsimp only at hz pv
      cases hb : hasB L s (i : Nat) with
      | true =>
        rw [hb] at hh pe
        rw [if_pos rfl] at pe
        rw [pe] at pp
        have HH := Lib.hid hh
        have HZ := Lib.hid hz
        have HPP := Lib.hid (⟨pe, pv, pp⟩ : _ ∧ _ ∧ _)
        clear hh hz hb kU pe pv pp
        refine wpIn_seq_k fun K1 hK1 => ?_
        have HK1 := Lib.hid hK1
        clear hK1
        gi_wp2
        refine HK1.out _ _ ?_
        clear HK1
        refine wpIn_seq_k fun K2 hK2 => ?_
        have HK2 := Lib.hid hK2
        clear hK2
        gi_wp2
        refine HK2.out _ _ ?_
        clear HK2
        refine wpIn_seq_k fun K3 hK3 => ?_
        have HK3 := Lib.hid hK3
        clear hK3
        refine wpIn_block ?_
        refine wpIn_seq_k fun K4 hK4 => ?_
        have HK4 := Lib.hid hK4
        clear hK4
        gi_wp2
        refine HK4.out _ _ ?_
        clear HK4
        refine wpIn_seq_k fun K5 hK5 => ?_
        have HK5 := Lib.hid hK5
        clear hK5
        gi_wp2
        refine HK5.out _ _ ?_
        clear HK5
        refine wpIn_seq_k fun K6 hK6 => ?_
        have HK6 := Lib.hid hK6
        clear hK6
        rw [← hU]
        clear cs
        refine wpIn_region_rel_head (.inl rfl) 9 [([(2, none)], none), ([(5, none)], none), ([(12, some 1), (13, some 0)], none), ([(14, some 0)], none), ([(0, none), (15, some 0)], some (15, true)), ([(5, none), (15, some 1)], some (15, true)), ([(2, none), (15, some 2)], some (15, true)), ([(5, none), (15, some 3)], some (15, true)), ([(18, some 1), (19, some 0), (15, some 4)], some (15, true))] [(0, 20), (3, 17), (4, 16), (5, 15)] (by kernel_rfl) (by kernel_rfl) (by kernel_rfl) (by kernel_rfl) (by kernel_rfl) (by kernel_rfl) (by kernel_rfl) (by kernel_rfl) ?_
        simp only [List.take_succ_cons, List.take_zero, List.drop_succ_cons, List.drop_zero]
        refine ob_det (c := L.val P) ?_ ?_
        · intro ρ W hk hC
          simp only [seen, obOp]
          rintro h2
          replace h2 : ρ (.tmp 2) = .pointer (some ⟨Bl, 0, none⟩) := h2.trans rfl
          exact rel_value (runLoad h2 (HBX.out.below hC)) hC
        refine ob_det (c := .agg #[.int .i64 s, .int .i64 (i : Nat)]) ?_ ?_
        · intro ρ W hk hC
          simp only [seen, obOp]
          rintro h5
          replace h5 : ρ (.tmp 5) = .pointer (some ⟨wr.heap.size, 0, none⟩) := h5.trans rfl
          exact rel_value (by simp [go_sem, h5, y0 W hC, y1 W hC]) hC
        refine ob_det (c := .bool true) ?_ ?_
        · intro ρ W hk hC
          simp only [seen, obOp, List.getD_cons_zero, List.getD_cons_succ]
          rintro h12 h13
          exact rel_call (f := 51) (args := #[L.val P, .agg #[.int .i64 s, .int .i64 (i : Nat)]]) (by simp [go_sem, h12, h13, hk.func]) hC (HH.out W hC)
        refine ob_det (c := .bool true) ?_ ?_
        · intro ρ W hk hC
          simp only [seen, obOp, List.getD_cons_zero]
          rintro h14
          exact rel_value (by simp [go_sem, h14]) hC
        refine ob_det (c := .func (.yield l) #[] #[]) ?_ ?_
        · intro ρ W hk hC
          simp only [seen, obOp, List.getD_cons_zero]
          rintro h0 h15
          replace h0 : ρ (.tmp 0) = .func (.yield l) #[] #[] := h0.trans rfl
          refine ⟨fun _ => ?_, fun hn => absurd h15 hn⟩
          exact rel_value (by simp [go_sem, h0]) hC
        refine ob_det (c := .agg #[.int .i64 s, .int .i64 (i : Nat)]) ?_ ?_
        · intro ρ W hk hC
          simp only [seen, obOp, List.getD_cons_zero, List.getD_cons_succ]
          rintro h5 h15
          replace h5 : ρ (.tmp 5) = .pointer (some ⟨wr.heap.size, 0, none⟩) := h5.trans rfl
          refine ⟨fun _ => ?_, fun hn => absurd h15 hn⟩
          exact rel_value (by simp [go_sem, h5, y0 W hC, y1 W hC]) hC
        refine ob_det (c := L.val P) ?_ ?_
        · intro ρ W hk hC
          simp only [seen, obOp, List.getD_cons_zero, List.getD_cons_succ]
          rintro h2 h15
          replace h2 : ρ (.tmp 2) = .pointer (some ⟨Bl, 0, none⟩) := h2.trans rfl
          refine ⟨fun _ => ?_, fun hn => absurd h15 hn⟩
          exact rel_value (runLoad h2 (HBX.out.below hC)) hC
        refine ob_det (c := .agg #[.int .i64 s, .int .i64 (i : Nat)]) ?_ ?_
        · intro ρ W hk hC
          simp only [seen, obOp, List.getD_cons_zero, List.getD_cons_succ]
          rintro h5 h15
          replace h5 : ρ (.tmp 5) = .pointer (some ⟨wr.heap.size, 0, none⟩) := h5.trans rfl
          refine ⟨fun _ => ?_, fun hn => absurd h15 hn⟩
          exact rel_value (by simp [go_sem, h5, y0 W hC, y1 W hC]) hC
        refine ob_det (c := .agg #[.int .i64 zs, .int .i64 zp]) ?_ ?_
        · intro ρ W hk hC
          simp only [seen, obOp, List.getD_cons_zero, List.getD_cons_succ]
          rintro h18 h19 h15
          refine ⟨fun _ => ?_, fun hn => absurd h15 hn⟩
          exact rel_call (f := 34) (args := #[L.val P, .agg #[.int .i64 s, .int .i64 (i : Nat)]]) (by simp [go_sem, h18, h19, hk.func]) hC (HZ.out W hC)
        intro vs w5 hC5
        simp only [endSeen, List.getD_cons_zero, List.getD_cons_succ]
        intro h20 h17 h16 h15
        simp only [writeAll, List.setIfInBounds_toArray, List.set_cons_zero, List.set_cons_succ, h20, h17, h16, h15]
        have J5 := HJ.out _ _ _ HKU.out.size HJU.out hC5
        obtain ⟨fn, tmps, assign, body, hyy, hR⟩ := HY.out _ i w5 J5 (lt_of_pre HPP.out.2.2)
        rw [HPP.out.2.1] at hyy
        gi_wp2
        refine hR.mono ?_
        rintro e W3 (⟨rfl, hJ3, hk3⟩ | ⟨rfl, hJx3⟩)
        · have H3 := Lib.hid (⟨hJ3, (HKU.out.trans (.of_below hC5)).trans (.of_keeps hk3)⟩ : _ ∧ _)
          clear hJ3 hk3
          gi_wp2
          refine HK6.out _ _ ?_
          gi_wp2
          refine HK3.out _ _ ?_
          gi_wp2
          go_roundw
          case rel => exact ⟨i + 1, by omega, by go_num, Lib.hid (by rw [HPP.out.1]; exact H3.out.1), Lib.hid H3.out.2⟩
          case measure => simp [intOf]; omega
        · gi_wp2
          refine HK6.out _ _ ?_
          gi_wp2
          refine bodyPost_ret (results_none rfl _ _ _) rfl ?_
          exact ⟨⟨_, rfl⟩, .inr ⟨_, HPP.out.2.2, hJx3⟩⟩
      | false =>
        rw [hb] at hh pe
        rw [if_neg (by simp), List.append_nil] at pe
        have HH := Lib.hid hh
        have HPP := Lib.hid pe
        clear hh hz hb kU pe pv pp
        refine wpIn_seq_k fun K1 hK1 => ?_
        have HK1 := Lib.hid hK1
        clear hK1
        gi_wp2
        refine HK1.out _ _ ?_
        clear HK1
        refine wpIn_seq_k fun K2 hK2 => ?_
        have HK2 := Lib.hid hK2
        clear hK2
        gi_wp2
        refine HK2.out _ _ ?_
        clear HK2
        refine wpIn_seq_k fun K3 hK3 => ?_
        have HK3 := Lib.hid hK3
        clear hK3
        refine wpIn_block ?_
        refine wpIn_seq_k fun K4 hK4 => ?_
        have HK4 := Lib.hid hK4
        clear hK4
        gi_wp2
        refine HK4.out _ _ ?_
        clear HK4
        refine wpIn_seq_k fun K5 hK5 => ?_
        have HK5 := Lib.hid hK5
        clear hK5
        gi_wp2
        refine HK5.out _ _ ?_
        clear HK5
        refine wpIn_seq_k fun K6 hK6 => ?_
        have HK6 := Lib.hid hK6
        clear hK6
        rw [← hU]
        clear cs
        refine wpIn_region_rel_below (.inl rfl) [([(2, none)], none), ([(5, none)], none), ([(12, some 1), (13, some 0)], none), ([(14, some 0)], none), ([(0, none), (15, some 0)], some (15, true)), ([(5, none), (15, some 1)], some (15, true)), ([(2, none), (15, some 2)], some (15, true)), ([(5, none), (15, some 3)], some (15, true)), ([(18, some 1), (19, some 0), (15, some 4)], some (15, true)), ([(16, some 4), (17, some 3), (20, some 0), (15, some 5)], some (15, true)), ([(21, some 0), (15, some 6)], some (15, true)), ([(15, some 7), (22, some 0)], none)] [(0, 23)] (by kernel_rfl) (by kernel_rfl) (by kernel_rfl) ?_
        refine ob_det (c := L.val P) ?_ ?_
        · intro ρ W hk hC
          simp only [seen, obOp]
          rintro h2
          replace h2 : ρ (.tmp 2) = .pointer (some ⟨Bl, 0, none⟩) := h2.trans rfl
          exact rel_value (runLoad h2 (HBX.out.below hC)) hC
        refine ob_det (c := .agg #[.int .i64 s, .int .i64 (i : Nat)]) ?_ ?_
        · intro ρ W hk hC
          simp only [seen, obOp]
          rintro h5
          replace h5 : ρ (.tmp 5) = .pointer (some ⟨wr.heap.size, 0, none⟩) := h5.trans rfl
          exact rel_value (by simp [go_sem, h5, y0 W hC, y1 W hC]) hC
        refine ob_det (c := .bool false) ?_ ?_
        · intro ρ W hk hC
          simp only [seen, obOp, List.getD_cons_zero, List.getD_cons_succ]
          rintro h12 h13
          exact rel_call (f := 51) (args := #[L.val P, .agg #[.int .i64 s, .int .i64 (i : Nat)]]) (by simp [go_sem, h12, h13, hk.func]) hC (HH.out W hC)
        refine ob_det (c := .bool false) ?_ ?_
        · intro ρ W hk hC
          simp only [seen, obOp, List.getD_cons_zero]
          rintro h14
          exact rel_value (by simp [go_sem, h14]) hC
        refine ob_det (c := undef) ?_ ?_
        · intro ρ W hk hC
          simp only [seen, obOp, List.getD_cons_zero]
          rintro h0 h15
          replace h0 : ρ (.tmp 0) = .func (.yield l) #[] #[] := h0.trans rfl
          exact ⟨fun h => absurd (h.symm.trans h15) (by simp), fun _ => by trivial⟩
        refine ob_det (c := undef) ?_ ?_
        · intro ρ W hk hC
          simp only [seen, obOp, List.getD_cons_zero, List.getD_cons_succ]
          rintro h5 h15
          replace h5 : ρ (.tmp 5) = .pointer (some ⟨wr.heap.size, 0, none⟩) := h5.trans rfl
          exact ⟨fun h => absurd (h.symm.trans h15) (by simp), fun _ => by trivial⟩
        refine ob_det (c := undef) ?_ ?_
        · intro ρ W hk hC
          simp only [seen, obOp, List.getD_cons_zero, List.getD_cons_succ]
          rintro h2 h15
          replace h2 : ρ (.tmp 2) = .pointer (some ⟨Bl, 0, none⟩) := h2.trans rfl
          exact ⟨fun h => absurd (h.symm.trans h15) (by simp), fun _ => by trivial⟩
        refine ob_det (c := undef) ?_ ?_
        · intro ρ W hk hC
          simp only [seen, obOp, List.getD_cons_zero, List.getD_cons_succ]
          rintro h5 h15
          replace h5 : ρ (.tmp 5) = .pointer (some ⟨wr.heap.size, 0, none⟩) := h5.trans rfl
          exact ⟨fun h => absurd (h.symm.trans h15) (by simp), fun _ => by trivial⟩
        refine ob_det (c := undef) ?_ ?_
        · intro ρ W hk hC
          simp only [seen, obOp, List.getD_cons_zero, List.getD_cons_succ]
          rintro h18 h19 h15
          exact ⟨fun h => absurd (h.symm.trans h15) (by simp), fun _ => by trivial⟩
        refine ob_det (c := undef) ?_ ?_
        · intro ρ W hk hC
          simp only [seen, obOp, List.getD_cons_zero, List.getD_cons_succ]
          rintro h16 h17 h20 h15
          exact ⟨fun h => absurd (h.symm.trans h15) (by simp), fun _ => by trivial⟩
        refine ob_det (c := undef) ?_ ?_
        · intro ρ W hk hC
          simp only [seen, obOp, List.getD_cons_zero, List.getD_cons_succ]
          rintro h21 h15
          exact ⟨fun h => absurd (h.symm.trans h15) (by simp), fun _ => by trivial⟩
        refine ob_det (c := .bool false) ?_ ?_
        · intro ρ W hk hC
          simp only [seen, obOp, List.getD_cons_zero, List.getD_cons_succ]
          rintro h15 h22
          exact rel_value (by simp [go_sem, h15, h22, hk.const]) hC
        intro vs w5 hC5
        simp only [endSeen, List.getD_cons_zero]
        intro h23
        have J5 := HJ.out _ _ _ HKU.out.size HJU.out hC5
        have H3 := Lib.hid (⟨J5, HKU.out.trans (.of_below hC5)⟩ : _ ∧ _)
        simp only [writeAll, List.setIfInBounds_toArray, List.set_cons_zero, List.set_cons_succ, h23]
        refine HK6.out _ _ ?_
        gi_wp2
        refine HK3.out _ _ ?_
        gi_wp2
        go_roundw
        case rel => exact ⟨i + 1, by omega, by go_num, Lib.hid (by rw [HPP.out]; exact H3.out.1), Lib.hid H3.out.2⟩
        case measure => simp [intOf]; omega
    · obtain rfl : i = 4 := by omega
      gi_wp2
      go_end0
      exact ⟨⟨_, rfl⟩, .inl ⟨_, rfl, HJi.out⟩⟩
end Go.Proofs.YtpcojaoeahdgcaaGreatDoor

/-
  topo.twice, its iterator, topo.first: the first one that is as one ahead of it.
-/
namespace Go.Proofs.YtpcojaoeahdgcaaGreatDoor
open Go.RowKit Go.Shelf
attribute [local go_sem] Oper.semAt_some

/-- Is one ahead of k as k? -/
def dupAt (P : Nat → Nat → Bool) (k : Nat) : Bool := (List.range k).any fun i => P i k
/-- Those of the first n that are as one ahead. -/
def dups (P : Nat → Nat → Bool) : Nat → List Nat
  | 0 => []
  | n + 1 => dups P n ++ (if dupAt P n then [n] else [])
def firstDup (P : Nat → Nat → Bool) (n : Nat) : Int := match (dups P n).head? with
  | some k => (k : Int)
  | none => -1
theorem dups_pre {P : Nat → Nat → Bool} {i j : Nat} (h : i ≤ j) : dups P i <+: dups P j := by
  induction h with
  | refl => exact List.prefix_rfl
  | step _ ih => exact ih.trans (List.prefix_append _ _)
theorem dups_hit {P : Nat → Nat → Bool} {i k : Nat} (hi : i < k) (h : P i k = true) : dups P (k + 1) = dups P k ++ [k] := by
  have : dupAt P k = true := by
    unfold dupAt
    rw [List.any_eq_true]
    exact ⟨i, List.mem_range.2 hi, h⟩
  simp [dups, this]
theorem dups_miss {P : Nat → Nat → Bool} {k : Nat} (h : ∀ i, i < k → P i k = false) : dups P (k + 1) = dups P k := by
  have : dupAt P k = false := by
    unfold dupAt
    rw [List.any_eq_false]
    intro i hi
    rw [h i (List.mem_range.1 hi)]
    simp
  simp [dups, this]
theorem SameCells.keepsE {A : Nat → Prop} {E : TypeId → Prop} {n : Nat} {w X Y : World} (h : SameCells w X) (hA : ∀ b, A b → w.heap.size ≤ b) (hn : w.heap.size ≤ n) (k : KeepsE A E n X Y) : SameCells w Y := fun b o ho hc => by
  have hb : b < w.heap.size := (Array.getElem?_eq_some_iff.1 ho).1
  exact k.same b o (h b o ho hc) hc (fun ha => by have := hA b ha; omega) (fun he => by omega)
theorem SameCells.below {w X Y : World} (h : SameCells w X) (hb : Below X.heap.size X Y) : SameCells w Y := fun b o ho hc =>
  (hb.block b (Array.getElem?_eq_some_iff.1 (h b o ho hc)).1).trans (h b o ho hc)
theorem SameCells.of_below {w X : World} (hb : Below w.heap.size w X) : SameCells w X := fun b _ ho _ => (hb.block b (Array.getElem?_eq_some_iff.1 ho).1).trans ho
theorem firstDup_none {P : Nat → Nat → Bool} {n : Nat} (h : dups P n = []) : firstDup P n = -1 := by
  unfold firstDup
  rw [h]
  rfl
theorem firstDup_some {P : Nat → Nat → Bool} {n k : Nat} (h : [k] <+: dups P n) : firstDup P n = k := by
  obtain ⟨r, hr⟩ := h
  unfold firstDup
  rw [← hr]
  rfl

set_option maxRecDepth 100000 in
set_option maxHeartbeats 16000000 in
theorem twice1_in (l Bn Bs n₀ : Nat) (n : Nat) (P : Nat → Nat → Bool) (g : Nat) (lb : Array Value) (eg : ∀ args w, (callFunc g args).run Tryz.prog w = .ok (.enter g args) w) (A : Nat → Prop) (E : TypeId → Prop) (Z : World → Prop)
    (hZb : ∀ X Y, Z X → Below X.heap.size X Y → Z Y) (hZk : ∀ X Y, Z X → KeepsE A E n₀ X Y → Z Y)
    (hZn : ∀ X, Z X → X.cell? ⟨Bn, 0, none⟩ = some (.int .i64 n)) (hZs : ∀ X, Z X → X.cell? ⟨Bs, 0, none⟩ = some (.func (.func g) #[] lb))
    (hS : ∀ X i k, Z X → i < k → k < n → Calls Tryz.prog g (#[.int .i64 (i : Nat), .int .i64 (k : Nat)] ++ lb) X fun e w' => e = .returned (.bool (P i k)) ∧ Below X.heap.size X w')
    (J Jx : List Nat → World → Prop) (W : World) (hJ : AbidesFrom W.heap.size J) (hn : n ≤ 9223372036854775807)
    (hY : ∀ pre x W1, J pre W1 → pre.length < (dups P n).length → YieldAt Fence.wide 3 Tryz.prog l #[.int .i64 (x : Nat)] W1 fun e W' =>
      (e = .returned (.bool true) ∧ J (pre ++ [x]) W' ∧ KeepsE A E n₀ W1 W') ∨ (e = .returned (.bool false) ∧ Jx (pre ++ [x]) W'))
    (hZ0 : Z W) (hJ0 : J [] W) :
    CallsIn Fence.wide 4 Tryz.prog 106 #[.func (.yield l) #[] #[], .pointer (some ⟨Bn, 0, none⟩), .pointer (some ⟨Bs, 0, none⟩)] W fun e W' => (∃ v, e = .returned v) ∧
      ((∃ ys, ys = dups P n ∧ J ys W') ∨ (∃ pre, (pre <+: dups P n) ∧ Jx pre W')) := by
  have hJg : ∀ s (X Y : World), W.heap.size ≤ X.heap.size → J s X → Below X.heap.size X Y → J s Y := fun s X Y _ hx hb => hJ s X Y none hx ⟨hb.os, hb.tape, hb.output, hb.size, fun k' hk' _ => hb.block k' hk'⟩ (fun r e => by cases e)
  have HJ := Lib.hid hJg
  have HY := Lib.hid hY
  have HZ := Lib.hid (⟨hZb, hZk, hZn, hZs⟩ : _ ∧ _ ∧ _ ∧ _)
  have HS := Lib.hid hS
  have c0 := hZn _ hZ0
  have HZ0 := Lib.hid hZ0
  clear hJg hJ hY hZb hZk hZn hZs hS hZ0
  refine callsIn_of_wp Tryz.func106 rfl trivial ?_ rfl
  simp only [Tryz.ntmps106, List.size_toArray, List.length_cons, List.length_nil, Nat.reduceAdd, Nat.reduceSub, Array.replicate_succ, Array.replicate_zero, List.push_toArray, List.append_toArray, List.nil_append, List.cons_append]
  gi_wp2_with fail
  gi_loopw [7] (fun c wr => ∃ k : Nat, k ≤ n ∧ c = .int .i64 k ∧ Hid (J (dups P k) wr) ∧ Hid (Z wr) ∧ Hid (W.heap.size ≤ wr.heap.size)) (fun c _ => n - (intOf c).toNat)
  case atStart => exact ⟨0, Nat.zero_le _, rfl, Lib.hid hJ0, HZ0, Lib.hid (Nat.le_refl _)⟩
  case round =>
    obtain ⟨k, hk, rfl, HJk, HZk, HWk⟩ := hrel
    clear c0 hJ0 HZ0
    by_cases hlt : k < n
    · gi_wp2_with fail
      gi_loopw [11] (fun c wi => ∃ i : Nat, i ≤ k ∧ c = .int .i64 i ∧ Hid (J (dups P k) wi) ∧ Hid (Z wi) ∧ Hid (W.heap.size ≤ wi.heap.size) ∧ Hid (∀ j, j < i → P j k = false)) (fun c _ => k - (intOf c).toNat)
      case atStart => exact ⟨0, Nat.zero_le _, rfl, HJk, HZk, HWk, Lib.hid (fun j hj => absurd hj (Nat.not_lt_zero _))⟩
      case round =>
        obtain ⟨i, hi, rfl, HJi, HZi, HWi, HN⟩ := hrel
        clear HJk HZk HWk
        by_cases hlti : i < k
        · have cs := HZ.out.2.2.2 _ HZi.out
          have hcall := HS.out _ i k HZi.out hlti hlt
          obtain ⟨q, hq⟩ : ∃ q, q = P i k := ⟨_, rfl⟩
          rw [← hq] at hcall
          have HQ := Lib.hid hq
          have HC := Lib.hid hcall
          clear hq hcall
          gi_wp2_with fail
          refine ⟨trivial, (callsIn_wide.2 HC.out).mono ?_⟩
          rintro e w1 ⟨rfl, b1⟩
          have HJ1 := Lib.hid (HJ.out _ _ _ HWi.out HJi.out b1)
          have HZ1 := Lib.hid (HZ.out.1 _ _ HZi.out b1)
          have HW1 := Lib.hid (Nat.le_trans HWi.out b1.size)
          clear b1 cs HC
          cases q with
          | true =>
            have HD := Lib.hid (dups_hit hlti HQ.out.symm)
            have hpre : dups P k ++ [k] <+: dups P n := HD.out ▸ dups_pre (P := P) (show k + 1 ≤ n by omega)
            obtain ⟨fn, tmps, assign, body, hyy, hR⟩ := HY.out _ k w1 HJ1.out (lt_of_pre hpre)
            have HPR := Lib.hid hpre
            clear hpre
            gi_wp2
            refine hR.mono ?_
            rintro e W3 (⟨rfl, hJ3, hk3⟩ | ⟨rfl, hJx3⟩)
            · have H3 := Lib.hid (⟨hJ3, HZ.out.2.1 _ _ HZ1.out hk3, Nat.le_trans HW1.out hk3.size⟩ : _ ∧ _ ∧ _)
              clear hJ3 hk3
              gi_wp2
              go_roundw
              case rel => exact ⟨k + 1, by omega, by go_num, Lib.hid (by rw [HD.out]; exact H3.out.1), Lib.hid H3.out.2.1, Lib.hid H3.out.2.2⟩
              case measure => simp [intOf]; omega
            · gi_wp2
              refine bodyPost_ret (results_none rfl _ _ _) rfl ?_
              exact ⟨⟨_, rfl⟩, .inr ⟨_, HPR.out, hJx3⟩⟩
          | false =>
            gi_wp2
            go_roundw
            case rel =>
              refine ⟨i + 1, by omega, by go_num, HJ1, HZ1, HW1, Lib.hid (fun j hj => ?_)⟩
              by_cases e : j = i
              · subst e; exact HQ.out.symm
              · exact HN.out j (by omega)
            case measure => simp [intOf]; omega
        · obtain rfl : i = k := by omega
          gi_wp2
          go_roundw
          case rel => exact ⟨i + 1, by omega, by go_num, Lib.hid (by rw [dups_miss HN.out]; exact HJi.out), HZi, HWi⟩
          case measure => simp [intOf]; omega
    · obtain rfl : k = n := by omega
      gi_wp2
      go_end0
      exact ⟨⟨_, rfl⟩, .inl ⟨_, rfl, HJk.out⟩⟩

theorem twice_fn (n : Int) (g : Nat) (lb : Array Value) (w : World) :
    Calls Tryz.prog 83 #[.int .i64 n, .func (.func g) #[] lb] w fun e w' => e = .returned (.func (.func 106) #[] #[.pointer (some ⟨w.heap.size, 0, none⟩), .pointer (some ⟨w.heap.size + 1, 0, none⟩)]) ∧
      Below w.heap.size w w' ∧ w.heap.size + 1 < w'.heap.size ∧ w'.cell? ⟨w.heap.size, 0, none⟩ = some (.int .i64 n) ∧ w'.cell? ⟨w.heap.size + 1, 0, none⟩ = some (.func (.func g) #[] lb) := by
  go_enter Tryz.func83, Tryz.ntmps83
  go_wp2
  go_ret
  exact ⟨rfl, bchain bself bself, by simp, by simp [go_sem], by simp [go_sem]⟩

/-- What first's cell holds: while none has come; when one has. -/
def FirI (b : Nat) (pre : List Nat) (W : World) : Prop := pre = [] ∧ W.cell? ⟨b, 0, none⟩ = some (.int .i64 0) ∧ W.frozen? ⟨b, 0, none⟩ = false
def FirX (b : Nat) (c : Code) (pre : List Nat) (W : World) : Prop := c = .ret ∧ ∃ k : Nat, pre = [k] ∧ W.cell? ⟨b, 0, none⟩ = some (.int .i64 k)
theorem FirI.same {b : Nat} {pre : List Nat} {W W' : World} (h : FirI b pre W) (k : SameCells W W') : FirI b pre W' := ⟨h.1, k.cell h.2.1, (k.frozen h.2.1).trans h.2.2⟩
theorem FirX.same {b : Nat} {c : Code} {pre : List Nat} {W W' : World} (h : FirX b c pre W) (k : SameCells W W') : FirX b c pre W' := by
  obtain ⟨h1, x, h2, h3⟩ := h
  exact ⟨h1, x, h2, k.cell h3⟩

set_option maxRecDepth 100000 in
set_option maxHeartbeats 4000000 in
theorem first_any (Bn Bs n : Nat) (P : Nat → Nat → Bool) (g : Nat) (lb : Array Value) (eg : ∀ args w, (callFunc g args).run Tryz.prog w = .ok (.enter g args) w) (w : World) (hn : n ≤ 9223372036854775807)
    (cn : w.cell? ⟨Bn, 0, none⟩ = some (.int .i64 n)) (cs : w.cell? ⟨Bs, 0, none⟩ = some (.func (.func g) #[] lb))
    (hS : ∀ X i k, Kept w X → i < k → k < n → Calls Tryz.prog g (#[.int .i64 (i : Nat), .int .i64 (k : Nat)] ++ lb) X fun e w' => e = .returned (.bool (P i k)) ∧ Below X.heap.size X w') :
    Calls Tryz.prog 82 #[.func (.func 106) #[] #[.pointer (some ⟨Bn, 0, none⟩), .pointer (some ⟨Bs, 0, none⟩)]] w fun e w' => e = .returned (.int .i64 (firstDup P n)) ∧ Below w.heap.size w w' := by
  refine calls_marked w.heap.size Tryz.func82 rfl ?_
  simp only [Tryz.ntmps82, List.size_toArray, List.length_cons, List.length_nil, Nat.reduceAdd, Nat.reduceSub, Array.replicate_succ, Array.replicate_zero, List.push_toArray, List.append_toArray, List.nil_append, List.cons_append]
  have HS := Lib.hid hS
  have HC := Lib.hid (⟨cn, cs⟩ : _ ∧ _)
  clear hS cn cs
  go_wp2_with fail
  have HB : Below w.heap.size w (w.alloc (.cells #[.int .i64 0] 3)) := bself
  refine wp_range_e (α := Nat) (gf := 106) (lb := #[.pointer (some ⟨Bn, 0, none⟩), .pointer (some ⟨Bs, 0, none⟩)]) (encs := fun x => #[.int .i64 (x : Nat)]) (S := fun ys => ys = dups P n) (Sp := fun pre => pre <+: dups P n) (N := (dups P n).length) rfl (enters_of Tryz.func106 (by kernel_rfl) rfl)
    (fun b => b = w.heap.size) (fun _ => False) (by rintro b rfl; simp) ?seq (fun _ => rfl) (FirI w.heap.size) (FirX w.heap.size) (fun _ _ _ h k _ => h.same k) (fun _ _ _ _ h k _ => h.same k) ⟨rfl, by simp [go_sem], by simp [go_sem]⟩
    (fun x => { tmps := #[.func (.func 106) #[] #[.pointer (some ⟨Bn, 0, none⟩), .pointer (some ⟨Bs, 0, none⟩)], undef, .pointer (some ⟨w.heap.size, 0, none⟩), .int .i64 (x : Nat), .func (.func 106) #[] #[.pointer (some ⟨Bn, 0, none⟩), .pointer (some ⟨Bs, 0, none⟩)], .int .i64 (x : Nat), undef], defers := [] })
    ?assign ?body ?done ?stop
  case seq =>
    intro l J Jx W hW hJ _ hY hJ0
    have hsz : w.heap.size ≤ W.heap.size := Nat.le_trans (by simp) hW.size
    exact twice1_in l Bn Bs _ n P g lb eg _ _ (fun Y => w.heap.size ≤ Y.heap.size ∧ SameCells w Y) (fun X Y h hb => ⟨Nat.le_trans h.1 hb.size, h.2.below hb⟩) (fun X Y h k => ⟨Nat.le_trans h.1 k.size, h.2.keepsE (by rintro b rfl; exact Nat.le_refl _) (by simp) k⟩)
      (fun X h => h.2.cell HC.out.1) (fun X h => h.2.cell HC.out.2) (fun X i k h => HS.out X i k (.of_same h.2 h.1)) J Jx W hJ hn hY ⟨hsz, .of_below (bchain HB hW)⟩ hJ0
  case assign =>
    intro l x W K hK
    gi_wp2
    exact hK
  case body =>
    rintro l pre x W hw ⟨rfl, c0, f0⟩ _
    gi_wp2
    exact ⟨WritesE.setCell (A := fun b => b = w.heap.size) (WritesE.refl _ _ _ W) (p := ⟨w.heap.size, 0, none⟩) rfl _, rfl, x, rfl, by simp [go_sem, c0]⟩
  case done =>
    rintro D ys W hD rfl hw ⟨hp, c0, f0⟩ hK
    have hB := hw.below HB (by simp) (by simp) (by rintro b rfl; exact Nat.le_refl _)
    simp at hD
    dsimp only
    go_wp2
    refine ⟨⟨[D], ⟨rfl, by simp, ?held⟩⟩, fun w' hb hk => ⟨_, ?res, rfl, ?bel⟩⟩
    case held =>
      rintro D' h
      simp only [List.mem_cons, List.not_mem_nil, or_false] at h
      subst h
      exact ⟨by omega, (Below.heap_setCell _ _ _ _ (by dsimp only; omega)).trans hK⟩
    case res =>
      have e1 := cells_kept hk (b := w.heap.size) (o := 0) (v := .int .i64 (-1)) (by simp [go_sem, c0])
      rw [firstDup_none hp]
      simp [results, Tryz.results82, go_sem, e1]
    case bel => exact (hB.setCell (p := ⟨w.heap.size, 0, none⟩) (Nat.le_refl _) _).trans hb
  case stop =>
    rintro D c pre W hD hS2 hw ⟨rfl, k, rfl, c0⟩ hK
    have hB := hw.below HB (by simp) (by simp) (by rintro b rfl; exact Nat.le_refl _)
    simp at hD
    dsimp only
    go_wp2
    refine ⟨⟨[D], ⟨rfl, by simp, ?held⟩⟩, fun w' hb hk => ⟨_, ?res, rfl, ?bel⟩⟩
    case held =>
      rintro D' h
      simp only [List.mem_cons, List.not_mem_nil, or_false] at h
      subst h
      exact ⟨by omega, hK⟩
    case res =>
      have e1 := cells_kept hk c0
      rw [firstDup_some hS2]
      simp [results, Tryz.results82, go_sem, e1]
    case bel => exact hB.trans hb
end Go.Proofs.YtpcojaoeahdgcaaGreatDoor

/-
  topo.rules: its closures for signals, exits, flanks.
-/
namespace Go.Proofs.YtpcojaoeahdgcaaGreatDoor
open Go.RowKit Go.Shelf

set_option maxRecDepth 100000 in
theorem eqQ_portI (x0 x1 y0 y1 : Int) (w : World) : (Op.equalIn 10000 49 (.agg #[.int .i64 x0, .int .i64 x1]) (.agg #[.int .i64 y0, .int .i64 y1])).run Tryz.prog w = .ok (decide (x0 = y0 ∧ x1 = y1)) w := by
  rw [run_equalIn_struct w 9999 49 _ _ (by kernel_rfl) stoodE_port]
  by_cases h0 : x0 = y0 <;> by_cases h1 : x1 = y1 <;> simp [Op.eqFields, go_sem, Tryz.underlying49, h0, h1]
theorem eqQ_sigI (x0 x1 y0 y1 : Int) (w : World) : (Op.equalIn 10000 56 (.agg #[.int .i64 x0, .int .i64 x1]) (.agg #[.int .i64 y0, .int .i64 y1])).run Tryz.prog w = .ok (decide (x0 = y0 ∧ x1 = y1)) w := by
  have h := eqQ_signal ⟨x0, x1⟩ ⟨y0, y1⟩ w
  simp only [Prt.mk.injEq] at h
  exact h
theorem eqQ_flkI (x0 x1 x2 x3 y0 y1 y2 y3 : Int) (w : World) : (Op.equalIn 10000 100 (.agg #[.int .i64 x0, .int .i64 x1, .int .i64 x2, .int .i64 x3]) (.agg #[.int .i64 y0, .int .i64 y1, .int .i64 y2, .int .i64 y3])).run Tryz.prog w = .ok (decide (x0 = y0 ∧ x1 = y1 ∧ x2 = y2 ∧ x3 = y3)) w := by
  have h := eqQ_flank ⟨x0, x1, x2, x3⟩ ⟨y0, y1, y2, y3⟩ w
  simp only [Flk.mk.injEq] at h
  exact h
theorem run_store_fn {P : Program} {w : World} {a : Addr} {m : Mode} (f : Fn) (x y : Array Value) : (store a (.func f x y) m).run P w = stored P w a (.func f x y) m := run_store P w a _ m rfl
attribute [local go_sem] run_store_fn
attribute [local go_sem ↓ high] eqQ_portI eqQ_sigI eqQ_flkI

def sigP (L : Lay) (i k : Nat) : Bool := decide (L.sigs[i]? = L.sigs[k]?)
def exQ (L : Lay) (i k : Nat) : Bool := decide ((L.exits[i]?).map exP = (L.exits[k]?).map exP)
def bareF (f : Flk) : Flk := ⟨f.s, f.way, f.pt, 0⟩
def flQ (L : Lay) (i k : Nat) : Bool := decide ((L.flanks[i]?).map bareF = (L.flanks[k]?).map bareF)

set_option maxRecDepth 100000 in
set_option maxHeartbeats 4000000 in
theorem same2_any (L : Lay) (p : Where) (g i k : Nat) (w : World) (hL : LayAt w p L) (hB : Box w g L p) (hi : i < L.sigs.length) (hk : k < L.sigs.length) :
    Calls Tryz.prog 84 #[.int .i64 (i : Nat), .int .i64 (k : Nat), .pointer (some ⟨g, 0, none⟩)] w fun e w' => e = .returned (.bool (sigP L i k)) ∧ Below w.heap.size w w' := by
  obtain ⟨b, off, e0, hrow⟩ := hL.sigs.get hi
  obtain ⟨x, hx⟩ : ∃ x, L.sigs[i]? = some x := ⟨_, List.getElem?_eq_getElem hi⟩
  obtain ⟨y, hy⟩ : ∃ y, L.sigs[k]? = some y := ⟨_, List.getElem?_eq_getElem hk⟩
  have hq : sigP L i k = decide (x.s = y.s ∧ x.p = y.p) := by
    unfold sigP
    rw [hx, hy]
    obtain ⟨xs, xp⟩ := x
    obtain ⟨ys, yp⟩ := y
    simp
  rw [hq]
  have x0 : w.cell? ⟨b, off + i * 2, none⟩ = some (.int .i64 x.s) := hrow.2 i x hx 0 _ rfl
  have x1 : w.cell? ⟨b, off + i * 2 + 1, none⟩ = some (.int .i64 x.p) := hrow.2 i x hx 1 _ rfl
  have y0 : w.cell? ⟨b, off + k * 2, none⟩ = some (.int .i64 y.s) := hrow.2 k y hy 0 _ rfl
  have y1 : w.cell? ⟨b, off + k * 2 + 1, none⟩ = some (.int .i64 y.p) := hrow.2 k y hy 1 _ rfl
  have c1 : w.cell? ⟨g, 1, none⟩ = some (.slice (some ⟨b, off, none⟩) L.sigs.length p.c1) := (hB.2 1 _ rfl).trans (by rw [e0])
  generalize x.s = xs at x0 ⊢
  generalize x.p = xp at x1 ⊢
  generalize y.s = ys at y0 ⊢
  generalize y.p = yp at y1 ⊢
  have m1 : L.sigs.length ≤ 9223372036854775807 := Nat.le_trans hL.l1.1 hL.l1.2
  generalize L.sigs.length = n at hi hk c1 m1
  clear hrow hx hy hq e0 hL hB
  go_enter Tryz.func84, Tryz.ntmps84
  go_wp2
  go_region
  go_wp2
  go_ret
  exact ⟨ret_bool (by simp), (Below.refl _ _).drew⟩

set_option maxRecDepth 100000 in
set_option maxHeartbeats 4000000 in
theorem same3_any (L : Lay) (p : Where) (g i k : Nat) (w : World) (hL : LayAt w p L) (hB : Box w g L p) (hi : i < L.exits.length) (hk : k < L.exits.length) :
    Calls Tryz.prog 86 #[.int .i64 (i : Nat), .int .i64 (k : Nat), .pointer (some ⟨g, 0, none⟩)] w fun e w' => e = .returned (.bool (exQ L i k)) ∧ Below w.heap.size w w' := by
  obtain ⟨es, hes, hAt, hov⟩ := hL.exits
  have hlen : es.length = L.exits.length := by rw [← hes, List.length_map]
  obtain ⟨b, off, e0, hrow⟩ := hAt.get (j := i) (by omega)
  obtain ⟨x, hx⟩ : ∃ x, es[i]? = some x := ⟨es[i]'(by omega), List.getElem?_eq_getElem (by omega)⟩
  obtain ⟨y, hy⟩ : ∃ y, es[k]? = some y := ⟨es[k]'(by omega), List.getElem?_eq_getElem (by omega)⟩
  have hxe : L.exits[i]? = some x.1 := by rw [← hes, List.getElem?_map, hx]; rfl
  have hye : L.exits[k]? = some y.1 := by rw [← hes, List.getElem?_map, hy]; rfl
  have hq : exQ L i k = decide (x.1.s = y.1.s ∧ x.1.p = y.1.p) := by
    unfold exQ
    rw [hxe, hye]
    simp [exP]
  rw [hq]
  have x0 : w.cell? ⟨b, off + i * 3, none⟩ = some (.int .i64 x.1.s) := hrow.2 i x hx 0 _ rfl
  have x1 : w.cell? ⟨b, off + i * 3 + 1, none⟩ = some (.int .i64 x.1.p) := hrow.2 i x hx 1 _ rfl
  have y0 : w.cell? ⟨b, off + k * 3, none⟩ = some (.int .i64 y.1.s) := hrow.2 k y hy 0 _ rfl
  have y1 : w.cell? ⟨b, off + k * 3 + 1, none⟩ = some (.int .i64 y.1.p) := hrow.2 k y hy 1 _ rfl
  have c1 : w.cell? ⟨g, 2, none⟩ = some (.slice (some ⟨b, off, none⟩) L.exits.length p.c2) := (hB.2 2 _ rfl).trans (by rw [e0])
  generalize x.1.s = xs at x0 ⊢
  generalize x.1.p = xp at x1 ⊢
  generalize y.1.s = ys at y0 ⊢
  generalize y.1.p = yp at y1 ⊢
  have m1 : L.exits.length ≤ 9223372036854775807 := Nat.le_trans hL.l2.1 hL.l2.2
  clear hrow hx hy hq e0 hB hes hAt hov hlen hxe hye hL
  generalize L.exits.length = n at hi hk c1 m1
  go_enter Tryz.func86, Tryz.ntmps86
  go_wp2
  go_region
  go_wp2
  go_ret
  exact ⟨ret_bool (by simp), (Below.refl _ _).drew⟩

set_option maxRecDepth 100000 in
theorem bare_any (s y t q : Int) (w : World) : Calls Tryz.prog 90 #[.agg #[.int .i64 s, .int .i64 y, .int .i64 t, .int .i64 q]] w fun e w' => e = .returned (.agg #[.int .i64 s, .int .i64 y, .int .i64 t, .int .i64 0]) ∧ Below w.heap.size w w' := by
  go_enter Tryz.func90, Tryz.ntmps90
  go_wp2
  refine bodyPost_ret (v := .agg #[.int .i64 s, .int .i64 y, .int .i64 t, .int .i64 0]) (by simp [results, Tryz.results90, go_sem]) rfl ⟨rfl, ?_⟩
  repeat refine Below.setCell ?_ (by dsimp only; omega) _
  exact bchain bself bself

set_option maxRecDepth 100000 in
set_option maxHeartbeats 4000000 in
theorem same5_any (L : Lay) (p : Where) (g h i k : Nat) (w : World) (hL : LayAt w p L) (hB : Box w g L p) (hh : w.cell? ⟨h, 0, none⟩ = some (.func (.func 90) #[] #[])) (hi : i < L.flanks.length) (hk : k < L.flanks.length) :
    Calls Tryz.prog 91 #[.int .i64 (i : Nat), .int .i64 (k : Nat), .pointer (some ⟨h, 0, none⟩), .pointer (some ⟨g, 0, none⟩)] w fun e w' => e = .returned (.bool (flQ L i k)) ∧ Below w.heap.size w w' := by
  obtain ⟨b, off, e0, hrow⟩ := hL.flanks.get hi
  obtain ⟨x, hx⟩ : ∃ x, L.flanks[i]? = some x := ⟨_, List.getElem?_eq_getElem hi⟩
  obtain ⟨y, hy⟩ : ∃ y, L.flanks[k]? = some y := ⟨_, List.getElem?_eq_getElem hk⟩
  have hq : flQ L i k = decide (x.s = y.s ∧ x.way = y.way ∧ x.pt = y.pt ∧ (0 : Int) = 0) := by
    unfold flQ
    rw [hx, hy]
    simp [bareF]
  rw [hq]
  have x0 : w.cell? ⟨b, off + i * 4, none⟩ = some (.int .i64 x.s) := hrow.2 i x hx 0 _ rfl
  have x1 : w.cell? ⟨b, off + i * 4 + 1, none⟩ = some (.int .i64 x.way) := hrow.2 i x hx 1 _ rfl
  have x2 : w.cell? ⟨b, off + i * 4 + 2, none⟩ = some (.int .i64 x.pt) := hrow.2 i x hx 2 _ rfl
  have x3 : w.cell? ⟨b, off + i * 4 + 3, none⟩ = some (.int .i64 x.pos) := hrow.2 i x hx 3 _ rfl
  have y0 : w.cell? ⟨b, off + k * 4, none⟩ = some (.int .i64 y.s) := hrow.2 k y hy 0 _ rfl
  have y1 : w.cell? ⟨b, off + k * 4 + 1, none⟩ = some (.int .i64 y.way) := hrow.2 k y hy 1 _ rfl
  have y2 : w.cell? ⟨b, off + k * 4 + 2, none⟩ = some (.int .i64 y.pt) := hrow.2 k y hy 2 _ rfl
  have y3 : w.cell? ⟨b, off + k * 4 + 3, none⟩ = some (.int .i64 y.pos) := hrow.2 k y hy 3 _ rfl
  have c1 : w.cell? ⟨g, 3, none⟩ = some (.slice (some ⟨b, off, none⟩) L.flanks.length p.c3) := (hB.2 3 _ rfl).trans (by rw [e0])
  have lh : h < w.heap.size := World.block_lt_of_cell? _ _ hh
  have lg := hB.1
  have lb := hrow.1
  have m1 : L.flanks.length ≤ 9223372036854775807 := Nat.le_trans hL.l3.1 hL.l3.2
  clear hrow hx hy hq e0 hL hB
  generalize L.flanks.length = n at hi hk c1 m1
  obtain ⟨xs, xw, xt, xq⟩ := x
  obtain ⟨ys, yw, yt, yq⟩ := y
  dsimp only at x0 x1 x2 x3 y0 y1 y2 y3 ⊢
  go_enter Tryz.func91, Tryz.ntmps91
  go_wp2_with fail
  refine wp_region_ext (by kernel_rfl) (by kernel_rfl) fun hx => ?_
  repeat (go_big_quiet_step (first | (go_at_call 90; exact Calls.ext (bare_any xs xw xt xq _)) | (go_at_call 90; exact Calls.ext (bare_any ys yw yt yq _))))
  refine wpQuiet_nil ?_
  intro w5 b5
  go_wp2
  go_ret
  exact ⟨ret_bool (by simp), b5⟩

set_option maxRecDepth 100000 in
set_option maxHeartbeats 4000000 in
theorem rule2_any (L : Lay) (p : Where) (g : Nat) (w : World) (hL : LayAt w p L) (hB : Box w g L p) :
    Calls Tryz.prog 81 #[.pointer (some ⟨g, 0, none⟩)] w fun e w' => e = .returned (.int .i64 (firstDup (sigP L) L.sigs.length)) ∧ Below w.heap.size w w' := by
  have c1 := hB.2 1 _ rfl
  have lg := hB.1
  have m1 : L.sigs.length ≤ 9223372036854775807 := Nat.le_trans hL.l1.1 hL.l1.2
  have HL := Lib.hid hL
  have HB := Lib.hid hB
  clear hL hB
  go_enter Tryz.func81, Tryz.ntmps81
  go_wp2_with fail
  (with_reducible refine (twice_fn _ _ _ _).mono ?_)
  rintro e w1 ⟨rfl, b1, l1, n1, s1⟩
  have hf : ∀ X i k, Kept w1 X → i < k → k < L.sigs.length → Calls Tryz.prog 84 (#[.int .i64 (i : Nat), .int .i64 (k : Nat)] ++ #[.pointer (some ⟨g, 0, none⟩)]) X fun e w' => e = .returned (.bool (sigP L i k)) ∧ Below X.heap.size X w' := fun X i k hX hik hk => by
    have hk1 := (Kept.of_below b1).trans hX
    simpa using same2_any L p g i k X (HL.out.kept hk1) (HB.out.kept hk1) (by omega) hk
  have hfst := first_any _ _ _ (sigP L) _ _ (enters_of Tryz.func84 (by kernel_rfl) rfl) w1 m1 n1 s1 hf
  try simp only [World.size_alloc] at hfst
  have HF := Lib.hid hfst
  have HB1 := Lib.hid b1
  clear hf hfst b1 n1 s1 l1
  go_wp2_with fail
  (with_reducible refine HF.out.mono ?_)
  rintro e w2 ⟨rfl, b2⟩
  go_wp2
  go_ret
  exact ⟨rfl, bchain HB1.out b2⟩

set_option maxRecDepth 100000 in
set_option maxHeartbeats 4000000 in
theorem rule3_any (L : Lay) (p : Where) (g : Nat) (w : World) (hL : LayAt w p L) (hB : Box w g L p) :
    Calls Tryz.prog 85 #[.pointer (some ⟨g, 0, none⟩)] w fun e w' => e = .returned (.int .i64 (firstDup (exQ L) L.exits.length)) ∧ Below w.heap.size w w' := by
  have c1 := hB.2 2 _ rfl
  have lg := hB.1
  have m1 : L.exits.length ≤ 9223372036854775807 := Nat.le_trans hL.l2.1 hL.l2.2
  have HL := Lib.hid hL
  have HB := Lib.hid hB
  clear hL hB
  go_enter Tryz.func85, Tryz.ntmps85
  go_wp2_with fail
  (with_reducible refine (twice_fn _ _ _ _).mono ?_)
  rintro e w1 ⟨rfl, b1, l1, n1, s1⟩
  have hf : ∀ X i k, Kept w1 X → i < k → k < L.exits.length → Calls Tryz.prog 86 (#[.int .i64 (i : Nat), .int .i64 (k : Nat)] ++ #[.pointer (some ⟨g, 0, none⟩)]) X fun e w' => e = .returned (.bool (exQ L i k)) ∧ Below X.heap.size X w' := fun X i k hX hik hk => by
    have hk1 := (Kept.of_below b1).trans hX
    simpa using same3_any L p g i k X (HL.out.kept hk1) (HB.out.kept hk1) (by omega) hk
  have hfst := first_any _ _ _ (exQ L) _ _ (enters_of Tryz.func86 (by kernel_rfl) rfl) w1 m1 n1 s1 hf
  try simp only [World.size_alloc] at hfst
  have HF := Lib.hid hfst
  have HB1 := Lib.hid b1
  clear hf hfst b1 n1 s1 l1
  go_wp2_with fail
  (with_reducible refine HF.out.mono ?_)
  rintro e w2 ⟨rfl, b2⟩
  go_wp2
  go_ret
  exact ⟨rfl, bchain HB1.out b2⟩

set_option maxRecDepth 100000 in
set_option maxHeartbeats 4000000 in
theorem rule5_any (L : Lay) (p : Where) (g : Nat) (w : World) (hL : LayAt w p L) (hB : Box w g L p) :
    Calls Tryz.prog 89 #[.pointer (some ⟨g, 0, none⟩)] w fun e w' => e = .returned (.int .i64 (firstDup (flQ L) L.flanks.length)) ∧ Below w.heap.size w w' := by
  have c1 := hB.2 3 _ rfl
  have lg := hB.1
  have m1 : L.flanks.length ≤ 9223372036854775807 := Nat.le_trans hL.l3.1 hL.l3.2
  have HL := Lib.hid hL
  have HB := Lib.hid hB
  clear hL hB
  go_enter Tryz.func89, Tryz.ntmps89
  go_wp2_with fail
  (with_reducible refine (twice_fn _ _ _ _).mono ?_)
  rintro e w1 ⟨rfl, b1, l1, n1, s1⟩
  have hf : ∀ X i k, Kept w1 X → i < k → k < L.flanks.length → Calls Tryz.prog 91 (#[.int .i64 (i : Nat), .int .i64 (k : Nat)] ++ #[.pointer (some ⟨w.heap.size, 0, none⟩), .pointer (some ⟨g, 0, none⟩)]) X fun e w' => e = .returned (.bool (flQ L i k)) ∧ Below X.heap.size X w' := fun X i k hX hik hk => by
    have hk1 := (Kept.of_below (bnew b1)).trans hX
    simpa using same5_any L p g w.heap.size i k X (HL.out.kept hk1) (HB.out.kept hk1) (hX.cell _ _ _ ((b1.cell (p := ⟨w.heap.size, 0, none⟩) (by simp)).trans (by simp [go_sem]))) (by omega) hk
  have hfst := first_any _ _ _ (flQ L) _ _ (enters_of Tryz.func91 (by kernel_rfl) rfl) w1 m1 n1 s1 hf
  try simp only [World.size_alloc] at hfst
  have HF := Lib.hid hfst
  have HB1 := Lib.hid (bnew b1)
  clear hf hfst b1 n1 s1 l1
  go_wp2_with fail
  (with_reducible refine HF.out.mono ?_)
  rintro e w2 ⟨rfl, b2⟩
  go_wp2
  go_ret
  exact ⟨rfl, bchain HB1.out b2⟩
end Go.Proofs.YtpcojaoeahdgcaaGreatDoor

/-
  join.Joined: are a layout's sections joined?
-/
namespace Go.Proofs.YtpcojaoeahdgcaaGreatDoor
open Go.RowKit Go.Shelf
attribute [local go_sem] Oper.semAt_some

theorem Marked.below {n₀ : Nat} {w w' : World} {ds : List Deferred} {Ds : List Nat} (h : Marked n₀ w ds Ds) (hb : Below w.heap.size w w') : Marked n₀ w' ds Ds :=
  ⟨h.eq, h.nodup, fun D hD => ⟨(h.held D hD).1, (hb.block D (Array.getElem?_eq_some_iff.1 (h.held D hD).2).1).trans (h.held D hD).2⟩⟩
theorem Marked.writes {n₀ : Nat} {A : Nat → Prop} {w w' : World} {ds : List Deferred} {Ds : List Nat} (h : Marked n₀ w ds Ds) (hw : Writes A w w') (hA : ∀ b, A b → ∃ o v, w.cell? ⟨b, o, none⟩ = some v) : Marked n₀ w' ds Ds :=
  ⟨h.eq, h.nodup, fun D hD => ⟨(h.held D hD).1, (hw.block D (Array.getElem?_eq_some_iff.1 (h.held D hD).2).1 (fun ha => by
    obtain ⟨o, v, hc⟩ := hA D ha
    obtain ⟨c, e, r, hh⟩ := isCells_of_cell hc
    rw [(h.held D hD).2] at hh
    cases hh)).trans (h.held D hD).2⟩⟩
theorem Marked.cons {n₀ D : Nat} {w : World} {ds : List Deferred} {Ds : List Nat} (h : Marked n₀ w ds Ds) (hD : n₀ ≤ D) (hn : ∀ D' ∈ Ds, D' < D) (hh : w.heap[D]? = some (.deferred (some []))) : Marked n₀ w ({ target := .collected D, args := #[] } :: ds) (D :: Ds) :=
  ⟨by rw [h.eq]; rfl, List.nodup_cons.2 ⟨fun hm => absurd (hn D hm) (Nat.lt_irrefl _), h.nodup⟩, fun D' h' => by
    rcases List.mem_cons.1 h' with rfl | h'
    · exact ⟨hD, hh⟩
    · exact h.held D' h'⟩
theorem Marked.lt {n₀ : Nat} {w : World} {ds : List Deferred} {Ds : List Nat} (h : Marked n₀ w ds Ds) : ∀ D ∈ Ds, D < w.heap.size := fun D hD => (Array.getElem?_eq_some_iff.1 (h.held D hD).2).1

/-- Is what lies beyond a section's port as it must be? -/
def joinB (L : Lay) (i : Int) (j : Nat) : Bool :=
  decide (beyL L i j = endP) || (!decide ((beyL L i j).s = i) && hasB L (beyL L i j).s (beyL L i j).p && decide (beyL L (beyL L i j).s (beyL L i j).p = ⟨i, j⟩))
theorem joinB_eq (L : Lay) (i : Int) (j : Nat) : joinB L i j = (decide (beyL L i j = endP) || (!decide ((beyL L i j).s = i) && hasB L (beyL L i j).s (beyL L i j).p && decide (beyL L (beyL L i j).s (beyL L i j).p = ⟨i, j⟩))) := rfl
def secFine (L : Lay) (i : Nat) : Bool := (match L.secs[i]? with | some c => rightT c | none => true) && (pj L i 4).all (joinB L i)
/-- Are the sections joined? -/
def joinedL (L : Lay) : Bool := decide (L.secs.length ≤ 24) && (List.range L.secs.length).all (secFine L)
theorem joinedL_facts (L : Lay) : (24 < L.secs.length → joinedL L = false) ∧ (∀ i, i < L.secs.length → secFine L i = false → joinedL L = false) ∧ (L.secs.length ≤ 24 → (∀ i, i < L.secs.length → secFine L i = true) → joinedL L = true) := by
  unfold joinedL
  refine ⟨fun h => ?_, fun i hi h => ?_, fun h h2 => ?_⟩
  · rw [decide_eq_false (by omega)]; rfl
  · rw [Bool.and_eq_false_iff]
    exact .inr (List.all_eq_false.2 ⟨i, List.mem_range.2 hi, by rw [h]; simp⟩)
  · rw [decide_eq_true h, Bool.true_and, List.all_eq_true]
    exact fun i hi => h2 i (List.mem_range.1 hi)
theorem secFine_eq {L : Lay} {i : Nat} {c : Sec} (hc : L.secs[i]? = some c) : secFine L i = (rightT c && (pj L i 4).all (joinB L i)) := by
  unfold secFine
  rw [hc]

theorem jports_stops (Bs Bl : Nat) (s : Int) (L : Lay) (P : Where) (w : World) (hL : LayAt w P L) (hB : BoxL w Bl L P) (hK : Kinds w) (hE : JEnd w) (cs : w.cell? ⟨Bs, 0, none⟩ = some (.int .i64 s)) :
    SeqStopsK Fence.wide 4 Tryz.prog 109 #[.pointer (some ⟨Bs, 0, none⟩), .pointer (some ⟨Bl, 0, none⟩)] (pjV L s) (KeepsE NoB NoT w.heap.size) (fun ys => ys = pj L s 4) (fun pre => pre <+: pj L s 4) (pj L s 4).length w := by
  intro l J Jx W hW hJ _ hY hJ0
  exact jports1_in l Bs Bl w.heap.size s L P J Jx W hJ hY (hL.below hW) (hB.below hW) (hK.below hW) (hE.below hW) ((hW.cell (p := ⟨Bs, 0, none⟩) (World.block_lt_of_cell? _ _ cs)).trans cs) hJ0

/-- Where the two variables of the range lie. -/
def JAx (L : Lay) (s : Int) (f : Nat → Nat → Nat → Array Value) (j : Nat) (a' : Act) (W : World) : Prop :=
  ∃ b5 b6 : Nat, a' = { tmps := f b5 b6 j, defers := [] } ∧ b5 < W.heap.size ∧ b6 < W.heap.size ∧ W.cell? ⟨b5, 0, none⟩ = some (.int .i64 s) ∧ W.cell? ⟨b5, 1, none⟩ = some (.int .i64 (j : Nat)) ∧
    W.cell? ⟨b6, 0, none⟩ = some (.int .i64 (beyL L s j).s) ∧ W.cell? ⟨b6, 1, none⟩ = some (.int .i64 (beyL L s j).p)
theorem JAx.same {L : Lay} {s : Int} {f : Nat → Nat → Nat → Array Value} {j : Nat} {a' : Act} {W W' : World} (h : JAx L s f j a' W) (k : SameCells W W') (hs : W.heap.size ≤ W'.heap.size) : JAx L s f j a' W' := by
  obtain ⟨b5, b6, e, l5, l6, c0, c1, c2, c3⟩ := h
  exact ⟨b5, b6, e, Nat.lt_of_lt_of_le l5 hs, Nat.lt_of_lt_of_le l6 hs, k.cell c0, k.cell c1, k.cell c2, k.cell c3⟩
def JX (L : Lay) (i t : Nat) (c : Code) (pre : List Nat) (W : World) : Prop := c = .ret ∧ (∃ j ∈ pre, joinB L i j = false) ∧ W.cell? ⟨t, 0, none⟩ = some (.bool false)

set_option maxRecDepth 100000 in
set_option maxHeartbeats 16000000 in
theorem joinedJ_any (L : Lay) (P : Where) (w : World) (hL : LayAt w P L) (K : Kinds w) (E : JEnd w) :
    Calls Tryz.prog 80 #[L.val P] w fun e w' => e = .returned (.bool (joinedL L)) ∧ Below w.heap.size w w' := by
  have hr := joinedL_facts L
  generalize joinedL L = r at hr ⊢
  have m0 : L.secs.length ≤ 9223372036854775807 := Nat.le_trans hL.l0.1 hL.l0.2
  obtain ⟨a0, a1, a2, a3, p0, p1, p2, p3⟩ := P
  have HR := Lib.hid hr
  have HL := Lib.hid hL
  have HKE := Lib.hid (⟨K, E⟩ : _ ∧ _)
  clear hr hL K E
  refine calls_marked w.heap.size Tryz.func80 rfl ?_
  unfold Lay.val
  simp only [Tryz.ntmps80, List.size_toArray, List.length_cons, List.length_nil, Nat.reduceAdd, Nat.reduceSub, Array.replicate_succ, Array.replicate_zero, List.push_toArray, List.append_toArray, List.nil_append, List.cons_append]
  by_cases h24 : 24 < L.secs.length
  · have d24 : decide ((24 : Int) < (L.secs.length : Int)) = true := decide_eq_true (by omega)
    obtain rfl : r = false := HR.out.1 h24
    clear h24
    go_wp2_with fail
    have eT : True := trivial
    refine ⟨⟨[], Marked.nil _ _⟩, fun w' hb hk => ⟨.bool false, ?_, rfl, ?_⟩⟩
    · have e1 := cells_kept hk (b := w.heap.size + 1) (o := 0) (v := .bool false) (by simp [go_sem])
      simp [results, Tryz.results80, go_sem, e1]
    · exact (bchain bself bself).trans hb
  have d24 : decide ((24 : Int) < (L.secs.length : Int)) = false := decide_eq_false (by omega)
  have H24 := Lib.hid h24
  clear h24
  go_wp2_with fail
  obtain ⟨X, hX⟩ : ∃ X, X = (w.alloc (.cells #[.slice a0 L.secs.length p0, .slice a1 L.sigs.length p1, .slice a2 L.exits.length p2, .slice a3 L.flanks.length p3, .int .i64 L.t0, .int .i64 L.t1, .int .i64 L.t2, .int .i64 L.t3, .int .i64 L.t4, .int .i64 L.t5, .int .i64 L.t6] 29)).alloc (.cells #[.bool false] 4) := ⟨_, rfl⟩
  have hB : Below w.heap.size w X := by rw [hX]; exact bchain bself bself
  have hBL : BoxL X w.heap.size L ⟨a0, a1, a2, a3, p0, p1, p2, p3⟩ := by rw [hX]; exact (BoxL.make _ rfl).below bself
  have hcT : X.cell? ⟨w.heap.size + 1, 0, none⟩ = some (.bool false) := by rw [hX]; simp [go_sem]
  have hfT : X.frozen? ⟨w.heap.size + 1, 0, none⟩ = false := by rw [hX]; simp [go_sem]
  have hsz : X.heap.size = w.heap.size + 2 := by rw [hX]; simp
  rw [← hX]
  have HX := Lib.hid (⟨hB, hBL, hcT, hfT, hsz⟩ : _ ∧ _ ∧ _ ∧ _ ∧ _)
  clear hX hB hBL hcT hfT hsz d24
  refine wp_loop (fun a' wr => ∃ (i : Nat) (Ds : List Nat) (u3 u4 u15 u16 u17 u18 u19 u20 u21 u22 u23 u24 u49 : Value), a' = ({ tmps := #[.agg #[.slice a0 L.secs.length p0, .slice a1 L.sigs.length p1, .slice a2 L.exits.length p2, .slice a3 L.flanks.length p3, .int .i64 L.t0, .int .i64 L.t1, .int .i64 L.t2, .int .i64 L.t3, .int .i64 L.t4, .int .i64 L.t5, .int .i64 L.t6], .pointer (some ⟨w.heap.size, 0, none⟩), .pointer (some ⟨w.heap.size + 1, 0, none⟩), u3, u4, undef, undef, .pointer (some ⟨w.heap.size, 0, none⟩), .slice a0 L.secs.length p0, .int .i64 L.secs.length, .bool false, .pointer (some ⟨w.heap.size, 0, none⟩), .slice a0 L.secs.length p0, .int .i64 L.secs.length, .int .i64 (i : Nat), u15, u16, u17, u18, u19, u20, u21, u22, u23, u24, undef, undef, undef, undef, undef, undef, undef, undef, undef, undef, undef, undef, undef, undef, undef, undef, undef, undef, undef, undef, undef, undef, undef, undef, u49], defers := Ds.map fun D => { target := .collected D, args := #[] } } : Act) ∧ i ≤ L.secs.length ∧ Below X.heap.size X wr ∧ Marked w.heap.size wr (Ds.map fun D => { target := .collected D, args := #[] }) Ds ∧ ∀ j, j < i → secFine L j = true) (fun a' _ => L.secs.length - (intOf (a'.tmps.getD 14 undef)).toNat) ?_ ?_
  · exact ⟨0, [], _, _, _, _, _, _, _, _, _, _, _, _, _, rfl, Nat.zero_le _, Below.refl _ _, Marked.nil _ _, fun j hj => absurd hj (Nat.not_lt_zero _)⟩
  rintro a' wr ⟨i, Ds, u3, u4, u15, u16, u17, u18, u19, u20, u21, u22, u23, u24, u49, rfl, hi, hBr, hM, hF⟩
  have HM := Lib.hid (⟨hBr, hM, hF⟩ : _ ∧ _ ∧ _)
  clear hBr hM hF
  by_cases hlt : i < L.secs.length
  · obtain ⟨b, off, e0, hrow⟩ := (HL.out.below (bchain HX.out.1 HM.out.1)).secs.get hlt
    dsimp only at e0
    subst e0
    obtain ⟨c, hc⟩ : ∃ c, L.secs[i]? = some c := ⟨L.secs[i], List.getElem?_eq_getElem hlt⟩
    obtain ⟨k0, k1, k2, k3, k4, k5, k6, k7, k8, k9, k10⟩ := sec_cells hrow hc
    have lb := hrow.1
    have hk := HL.out.kinds c (List.mem_of_getElem? hc)
    have hright : Calls Tryz.prog 69 #[.agg #[.int .u8 c.k, .int .i64 c.s0, .int .i64 c.p0, .int .i64 c.s1, .int .i64 c.p1, .int .i64 c.s2, .int .i64 c.p2, .int .i64 c.s3, .int .i64 c.p3, .int .i64 c.c0, .int .i64 c.c1]] ((wr.alloc (.cells #[.int .i64 (i : Nat)] 3)).alloc (.cells #[.int .u8 c.k, .int .i64 c.s0, .int .i64 c.p0, .int .i64 c.s1, .int .i64 c.p1, .int .i64 c.s2, .int .i64 c.p2, .int .i64 c.s3, .int .i64 c.p3, .int .i64 c.c0, .int .i64 c.c1] 73)) fun e w' => e = .returned (.bool (rightT c)) ∧ Below ((wr.alloc (.cells #[.int .i64 (i : Nat)] 3)).alloc (.cells #[.int .u8 c.k, .int .i64 c.s0, .int .i64 c.p0, .int .i64 c.s1, .int .i64 c.p1, .int .i64 c.s2, .int .i64 c.p2, .int .i64 c.s3, .int .i64 c.p3, .int .i64 c.c0, .int .i64 c.c1] 73)).heap.size ((wr.alloc (.cells #[.int .i64 (i : Nat)] 3)).alloc (.cells #[.int .u8 c.k, .int .i64 c.s0, .int .i64 c.p0, .int .i64 c.s1, .int .i64 c.p1, .int .i64 c.s2, .int .i64 c.p2, .int .i64 c.s3, .int .i64 c.p3, .int .i64 c.c0, .int .i64 c.c1] 73)) w' := by
      have h := right_any c.k c.S c.P c.C hk.1 hk.2 ((wr.alloc (.cells #[.int .i64 (i : Nat)] 3)).alloc (.cells #[.int .u8 c.k, .int .i64 c.s0, .int .i64 c.p0, .int .i64 c.s1, .int .i64 c.p1, .int .i64 c.s2, .int .i64 c.p2, .int .i64 c.s3, .int .i64 c.p3, .int .i64 c.c0, .int .i64 c.c1] 73)) (HKE.out.1.below (bchain (bchain HX.out.1 HM.out.1) (bchain bself bself)))
      rw [rightT_eq, secV_enc] at h
      exact h
    have hsf := secFine_eq hc
    obtain ⟨q, hq⟩ : ∃ q, q = rightT c := ⟨_, rfl⟩
    rw [← hq] at hright hsf
    have HRT := Lib.hid hright
    have HSF := Lib.hid hsf
    clear hright hsf hq hrow hk hc
    go_wp2_with fail
    (with_reducible refine HRT.out.mono ?_)
    rintro e w1 ⟨rfl, b1⟩
    have hB1 : Below X.heap.size X w1 := bchain HM.out.1 (bchain (bchain bself bself) b1)
    have hM1 := (HM.out.2.1.below (bchain bself bself)).below b1
    have hc3 : w1.cell? ⟨wr.heap.size, 0, none⟩ = some (.int .i64 (i : Nat)) := (b1.cell (p := ⟨wr.heap.size, 0, none⟩) (by simp only [World.size_alloc]; omega)).trans (by simp [go_sem])
    have ltT : w.heap.size + 1 < X.heap.size := by rw [HX.out.2.2.2.2]; omega
    have eT : w1.cell? ⟨w.heap.size + 1, 0, none⟩ = some (.bool false) := (hB1.cell (p := ⟨w.heap.size + 1, 0, none⟩) ltT).trans HX.out.2.2.1
    have fT : w1.frozen? ⟨w.heap.size + 1, 0, none⟩ = false := (hB1.frozen (p := ⟨w.heap.size + 1, 0, none⟩) ltT).trans HX.out.2.2.2.1
    have H1 := Lib.hid (⟨hB1, hM1⟩ : _ ∧ _)
    clear b1 hB1 hM1 k0 k1 k2 k3 k4 k5 k6 k7 k8 k9 k10
    cases q with
    | false =>
      obtain rfl : r = false := HR.out.2.1 i hlt (by rw [HSF.out]; rfl)
      clear hc3
      go_wp2_with fail
      have hw : Writes (fun g => g = w.heap.size + 1) w1 (w1.setCell ⟨w.heap.size + 1, 0, none⟩ (.bool false)) := (Writes.refl (fun g => g = w.heap.size + 1) _).setCell (A := fun g => g = w.heap.size + 1) (p := ⟨w.heap.size + 1, 0, none⟩) rfl _
      have hbw : Below w.heap.size w (w1.setCell ⟨w.heap.size + 1, 0, none⟩ (.bool false)) := hw.below (bchain HX.out.1 H1.out.1) (Nat.le_trans HX.out.1.size H1.out.1.size) (by rintro b rfl; omega)
      refine ⟨⟨_, H1.out.2.writes hw (by rintro g rfl; exact ⟨_, _, eT⟩)⟩, fun w' hb hk => ⟨.bool false, ?_, rfl, hbw.trans hb⟩⟩
      have e1 := cells_kept hk (b := w.heap.size + 1) (o := 0) (v := .bool false) (by simp [go_sem, eT])
      simp [results, Tryz.results80, go_sem, e1]
    | true =>
      have hbx := HX.out.2.1.below H1.out.1
      obtain ⟨c0, c1, c2, c3, c4, c5, c6, c7, c8, c9, c10⟩ := hbx.cells
      dsimp only at c0 c1 c2 c3
      have lg := hbx.1
      have hjp := jports_fn L ⟨some ⟨b, off, none⟩, a1, a2, a3, p0, p1, p2, p3⟩ (i : Nat) w1
      unfold Lay.val at hjp
      have HJP := Lib.hid hjp
      have HET := Lib.hid (⟨eT, fT, hc3⟩ : _ ∧ _ ∧ _)
      clear hjp hbx eT fT
      go_wp2_with fail
      (with_reducible refine HJP.out.mono ?_)
      rintro e w2 ⟨rfl, rfl⟩
      go_wp2_with fail
      clear c0 c1 c2 c3 c4 c5 c6 c7 c8 c9 c10 hc3 lg
      have hBV : Below w1.heap.size w1 ((w1.alloc (.cells (L.cells ⟨some ⟨b, off, none⟩, a1, a2, a3, p0, p1, p2, p3⟩).toArray 29)).alloc (.cells #[.int .i64 (i : Nat)] 3)) := bchain bself bself
      have hbV : BoxL ((w1.alloc (.cells (L.cells ⟨some ⟨b, off, none⟩, a1, a2, a3, p0, p1, p2, p3⟩).toArray 29)).alloc (.cells #[.int .i64 (i : Nat)] 3)) w1.heap.size L ⟨some ⟨b, off, none⟩, a1, a2, a3, p0, p1, p2, p3⟩ := (BoxL.make _ rfl).below bself
      have csV : ((w1.alloc (.cells (L.cells ⟨some ⟨b, off, none⟩, a1, a2, a3, p0, p1, p2, p3⟩).toArray 29)).alloc (.cells #[.int .i64 (i : Nat)] 3)).cell? ⟨w1.heap.size + 1, 0, none⟩ = some (.int .i64 (i : Nat)) := by simp [go_sem]
      generalize ((w1.alloc (.cells (L.cells ⟨some ⟨b, off, none⟩, a1, a2, a3, p0, p1, p2, p3⟩).toArray 29)).alloc (.cells #[.int .i64 (i : Nat)] 3)) = V at hBV hbV csV ⊢
      have hXV := bchain H1.out.1 hBV
      have hLV := HL.out.below (bchain HX.out.1 hXV)
      have hKV := HKE.out.1.below (bchain HX.out.1 hXV)
      have hEV := HKE.out.2.below (bchain HX.out.1 hXV)
      have hMV := H1.out.2.below hBV
      have ltV : w.heap.size + 1 < V.heap.size := Nat.lt_of_lt_of_le ltT hXV.size
      have lwV : w.heap.size ≤ V.heap.size := Nat.le_of_lt (Nat.lt_of_succ_lt ltV)
      have eTV : V.cell? ⟨w.heap.size + 1, 0, none⟩ = some (.bool false) := (hXV.cell (p := ⟨w.heap.size + 1, 0, none⟩) ltT).trans HX.out.2.2.1
      have fTV : V.frozen? ⟨w.heap.size + 1, 0, none⟩ = false := (hXV.frozen (p := ⟨w.heap.size + 1, 0, none⟩) ltT).trans HX.out.2.2.2.1
      have e3V : V.cell? ⟨wr.heap.size, 0, none⟩ = some (.int .i64 (i : Nat)) := (hBV.cell (p := ⟨wr.heap.size, 0, none⟩) (World.block_lt_of_cell? _ _ HET.out.2.2)).trans HET.out.2.2
      have l3V : wr.heap.size < V.heap.size := World.block_lt_of_cell? _ _ e3V
      have hBXV := HX.out.2.1.below hXV
      have HV := Lib.hid (⟨hLV, hKV, hEV, hBXV, e3V, eTV, fTV⟩ : _ ∧ _ ∧ _ ∧ _ ∧ _ ∧ _ ∧ _)
      have HMV := Lib.hid (⟨hXV, hMV⟩ : _ ∧ _)
      have HSQ := Lib.hid (jports_stops (w1.heap.size + 1) w1.heap.size (i : Nat) L ⟨some ⟨b, off, none⟩, a1, a2, a3, p0, p1, p2, p3⟩ V hLV hbV hKV hEV csV)
      clear hBV hbV csV hXV hLV hKV hEV hMV eTV fTV e3V hBXV HET H1
      refine wp_range_x (α := Nat) (gf := 109) (lb := #[.pointer (some ⟨w1.heap.size + 1, 0, none⟩), .pointer (some ⟨w1.heap.size, 0, none⟩)]) (encs := pjV L (i : Nat)) rfl (enters_of Tryz.func109 (by kernel_rfl) rfl) (fun g => g = w.heap.size + 1) (by rintro g rfl; exact ltV) HSQ.out (fun _ => rfl)
        (fun pre => ∀ j ∈ pre, joinB L (i : Nat) j = true) (JX L i (w.heap.size + 1)) ?hix (fun _ h => by cases h)
        (JAx L (i : Nat) (fun b5 b6 j => #[.agg #[.slice (some ⟨b, off, none⟩) L.secs.length p0, .slice a1 L.sigs.length p1, .slice a2 L.exits.length p2, .slice a3 L.flanks.length p3, .int .i64 L.t0, .int .i64 L.t1, .int .i64 L.t2, .int .i64 L.t3, .int .i64 L.t4, .int .i64 L.t5, .int .i64 L.t6], .pointer (some ⟨w.heap.size, 0, none⟩), .pointer (some ⟨w.heap.size + 1, 0, none⟩), .pointer (some ⟨wr.heap.size, 0, none⟩), .pointer (some ⟨wr.heap.size + 1, 0, none⟩), .pointer (some ⟨b5, 0, none⟩), .pointer (some ⟨b6, 0, none⟩), .pointer (some ⟨w.heap.size, 0, none⟩), .slice (some ⟨b, off, none⟩) L.secs.length p0, .int .i64 L.secs.length, .bool false, .pointer (some ⟨w.heap.size, 0, none⟩), .slice (some ⟨b, off, none⟩) L.secs.length p0, .int .i64 L.secs.length, .int .i64 (i : Nat), .bool true, .int .i64 (i : Nat), .pointer (some ⟨b, off + i * 11, none⟩), .agg #[.int .u8 c.k, .int .i64 c.s0, .int .i64 c.p0, .int .i64 c.s1, .int .i64 c.p1, .int .i64 c.s2, .int .i64 c.p2, .int .i64 c.s3, .int .i64 c.p3, .int .i64 c.c0, .int .i64 c.c1], .agg #[.int .u8 c.k, .int .i64 c.s0, .int .i64 c.p0, .int .i64 c.s1, .int .i64 c.p1, .int .i64 c.s2, .int .i64 c.p2, .int .i64 c.s3, .int .i64 c.p3, .int .i64 c.c0, .int .i64 c.c1], .bool true, .bool false, .agg #[.slice (some ⟨b, off, none⟩) L.secs.length p0, .slice a1 L.sigs.length p1, .slice a2 L.exits.length p2, .slice a3 L.flanks.length p3, .int .i64 L.t0, .int .i64 L.t1, .int .i64 L.t2, .int .i64 L.t3, .int .i64 L.t4, .int .i64 L.t5, .int .i64 L.t6], .int .i64 (i : Nat), .func (.func 109) #[] #[.pointer (some ⟨w1.heap.size + 1, 0, none⟩), .pointer (some ⟨w1.heap.size, 0, none⟩)], .agg #[.int .i64 (i : Nat), .int .i64 (j : Nat)], .agg #[.int .i64 (beyL L (i : Nat) j).s, .int .i64 (beyL L (i : Nat) j).p], undef, undef, undef, undef, undef, undef, undef, undef, undef, undef, undef, undef, undef, undef, undef, undef, undef, undef, undef, undef, undef, undef, u49])) (fun _ _ _ _ h k hs => h.same k hs) ?assign ?body ?done ?stop
      case hix =>
        rintro cd s W W' ⟨h1, h2, h3⟩ hs
        exact ⟨h1, h2, (World.cell?_of_block (w := W) (a := ⟨w.heap.size + 1, 0, none⟩) (hs _ rfl)).trans h3⟩
      case assign =>
        intro l j W Kn hb hK
        simp only [pjV]
        gi_wp2
        refine hK _ _ (bchain bself bself) ⟨W.heap.size, W.heap.size + 1, rfl, ?_, ?_, ?_, ?_, ?_, ?_⟩
        · simp only [World.size_alloc]; omega
        · simp only [World.size_alloc]; omega
        · simp [go_sem]
        · simp [go_sem]
        · simp [go_sem]
        · simp [go_sem]
      case body =>
        rintro l pre j a' W hb hi ⟨b5, b6, rfl, l5, l6, x0, x1, y0, y1⟩ hlen
        have HI := Lib.hid hi
        have HLW := Lib.hid (⟨HV.out.1.below hb, HV.out.2.1.below hb, HV.out.2.2.1.below hb⟩ : _ ∧ _ ∧ _)
        have HBX := Lib.hid (HV.out.2.2.2.1.below hb)
        have HTW := Lib.hid (⟨(hb.cell (p := ⟨w.heap.size + 1, 0, none⟩) ltV).trans HV.out.2.2.2.2.2.1, (hb.frozen (p := ⟨w.heap.size + 1, 0, none⟩) ltV).trans HV.out.2.2.2.2.2.2, Nat.lt_of_lt_of_le ltV hb.size⟩ : _ ∧ _ ∧ _)
        have x3' := (hb.cell (p := ⟨wr.heap.size, 0, none⟩) l3V).trans HV.out.2.2.2.2.1
        have l3W := Nat.lt_of_lt_of_le l3V hb.size
        replace x0 : ∀ V', ClB W V' → V'.cell? ⟨b5, 0, none⟩ = some (.int .i64 (i : Nat)) := fun V' h => (h.cell (p := ⟨b5, 0, none⟩) l5).trans x0
        replace x1 : ∀ V', ClB W V' → V'.cell? ⟨b5, 1, none⟩ = some (.int .i64 (j : Nat)) := fun V' h => (h.cell (p := ⟨b5, 1, none⟩) l5).trans x1
        replace y0 : ∀ V', ClB W V' → V'.cell? ⟨b6, 0, none⟩ = some (.int .i64 (beyL L (i : Nat) j).s) := fun V' h => (h.cell (p := ⟨b6, 0, none⟩) l6).trans y0
        replace y1 : ∀ V', ClB W V' → V'.cell? ⟨b6, 1, none⟩ = some (.int .i64 (beyL L (i : Nat) j).p) := fun V' h => (h.cell (p := ⟨b6, 1, none⟩) l6).trans y1
        have x3 : ∀ V', ClB W V' → V'.cell? ⟨wr.heap.size, 0, none⟩ = some (.int .i64 (i : Nat)) := fun V' h => (h.cell (p := ⟨wr.heap.size, 0, none⟩) l3W).trans x3'
        have e0 : ∀ V', ClB W V' → V'.cell? ⟨0, 0, none⟩ = some (.int .i64 (-1)) := fun V' h => (HLW.out.2.2.below h).c0
        have e1 : ∀ V', ClB W V' → V'.cell? ⟨0, 1, none⟩ = some (.int .i64 0) := fun V' h => (HLW.out.2.2.below h).c1
        have hjb := joinB_eq L (i : Nat) j
        clear x3' hi hb
        refine wpIn_block ?_
        refine wpIn_seq_k fun K1 hK1 => ?_
        have HK1 := Lib.hid hK1
        clear hK1
        generalize beyL L (i : Nat) j = z at y0 y1 hjb ⊢
        obtain ⟨zs, zp⟩ := z
        dsimp only at y0 y1 hjb ⊢
        have HH0 := fun V' (h : ClB W V') => hasJ_any L ⟨some ⟨b, off, none⟩, a1, a2, a3, p0, p1, p2, p3⟩ zs zp V' (HLW.out.1.below h) (HLW.out.2.1.below h)
        have HY0 := fun V' (h : ClB W V') => beyJ_any L ⟨some ⟨b, off, none⟩, a1, a2, a3, p0, p1, p2, p3⟩ zs zp V' (HLW.out.1.below h) (HLW.out.2.1.below h) (HLW.out.2.2.below h)
        by_cases hE : zs = -1 ∧ zp = 0
        · obtain ⟨rfl, rfl⟩ := hE
          have HJB := Lib.hid (show joinB L (i : Nat) j = true by rw [hjb]; simp [endP])
          clear HH0 HY0 hjb
          have hqE : ∀ V', (Op.equalIn 10000 49 (.agg #[.int .i64 (-1), .int .i64 0]) (.agg #[.int .i64 (-1), .int .i64 0])).run Tryz.prog V' = .ok true V' := fun V' => by rw [eqQ_portI]; simp
          focus
              refine wpIn_region_rel_below (.inr ⟨l, rfl⟩) [([(6, none)], none), ([], none), ([(27, some 1), (28, some 0)], none), ([(29, some 0)], none), ([(6, none), (30, some 0)], some (30, true)), ([(31, some 0), (30, some 1)], some (30, true)), ([(3, none), (30, some 2)], some (30, true)), ([(32, some 1), (33, some 0), (30, some 3)], some (30, true)), ([(34, some 0), (30, some 4)], some (30, true)), ([(1, none), (35, some 0)], some (35, false)), ([(6, none), (35, some 1)], some (35, false)), ([(36, some 1), (37, some 0), (35, some 2)], some (35, false)), ([(38, some 0), (35, some 3)], some (35, false)), ([(35, some 4), (39, some 0), (30, some 9)], some (30, true)), ([(40, some 0), (30, some 10)], some (30, true)), ([(1, none), (41, some 0)], some (41, false)), ([(6, none), (41, some 1)], some (41, false)), ([(42, some 1), (43, some 0), (41, some 2)], some (41, false)), ([(5, none), (41, some 3)], some (41, false)), ([(44, some 1), (45, some 0), (41, some 4)], some (41, false)), ([(41, some 5), (46, some 0), (30, some 16)], some (30, true)), ([(30, some 17), (47, some 0)], none)] [(0, 48)] (by kernel_rfl) (by kernel_rfl) (by kernel_rfl) ?_
              refine ob_det (c := .agg #[.int .i64 (-1), .int .i64 0]) ?_ ?_
              · intro ρ W hk hC
                simp only [seen, obOp]
                rintro h6
                replace h6 : ρ (.tmp 6) = .pointer (some ⟨b6, 0, none⟩) := h6.trans rfl
                exact rel_value (by simp [go_sem, h6, y0 W hC, y1 W hC]) hC
              refine ob_det (c := .agg #[.int .i64 (-1), .int .i64 0]) ?_ ?_
              · intro ρ W hk hC
                simp only [seen, obOp]
                exact rel_value (by simp [go_sem, hk.global, e0 W hC, e1 W hC]) hC
              refine ob_det (c := .bool false) ?_ ?_
              · intro ρ W hk hC
                simp only [seen, obOp, List.getD_cons_zero, List.getD_cons_succ]
                rintro h27 h28
                exact rel_value (by simp [go_sem, h27, h28, hqE]) hC
              refine ob_det (c := .bool false) ?_ ?_
              · intro ρ W hk hC
                simp only [seen, obOp, List.getD_cons_zero]
                rintro h29
                exact rel_value (by simp [go_sem, h29]) hC
              refine ob_det (c := undef) ?_ ?_
              · intro ρ W hk hC
                simp only [seen, obOp, List.getD_cons_zero]
                rintro h6 h30
                replace h6 : ρ (.tmp 6) = .pointer (some ⟨b6, 0, none⟩) := h6.trans rfl
                exact ⟨fun h => absurd (h.symm.trans h30) (by first | simp | simp [undef]), fun _ => by trivial⟩
              refine ob_det (c := undef) ?_ ?_
              · intro ρ W hk hC
                simp only [seen, obOp, List.getD_cons_zero, List.getD_cons_succ]
                rintro h31 h30
                exact ⟨fun h => absurd (h.symm.trans h30) (by first | simp | simp [undef]), fun _ => by trivial⟩
              refine ob_det (c := undef) ?_ ?_
              · intro ρ W hk hC
                simp only [seen, obOp, List.getD_cons_zero, List.getD_cons_succ]
                rintro h3 h30
                replace h3 : ρ (.tmp 3) = .pointer (some ⟨wr.heap.size, 0, none⟩) := h3.trans rfl
                exact ⟨fun h => absurd (h.symm.trans h30) (by first | simp | simp [undef]), fun _ => by trivial⟩
              refine ob_det (c := undef) ?_ ?_
              · intro ρ W hk hC
                simp only [seen, obOp, List.getD_cons_zero, List.getD_cons_succ]
                rintro h32 h33 h30
                exact ⟨fun h => absurd (h.symm.trans h30) (by first | simp | simp [undef]), fun _ => by trivial⟩
              refine ob_det (c := undef) ?_ ?_
              · intro ρ W hk hC
                simp only [seen, obOp, List.getD_cons_zero, List.getD_cons_succ]
                rintro h34 h30
                exact ⟨fun h => absurd (h.symm.trans h30) (by first | simp | simp [undef]), fun _ => by trivial⟩
              refine ob_det (c := undef) ?_ ?_
              · intro ρ W hk hC
                simp only [seen, obOp, List.getD_cons_zero]
                rintro h1 h35
                replace h1 : ρ (.tmp 1) = .pointer (some ⟨w.heap.size, 0, none⟩) := h1.trans rfl
                exact ⟨fun h => absurd (h.symm.trans h35) (by first | simp | simp [undef]), fun _ => by trivial⟩
              refine ob_det (c := undef) ?_ ?_
              · intro ρ W hk hC
                simp only [seen, obOp, List.getD_cons_zero, List.getD_cons_succ]
                rintro h6 h35
                replace h6 : ρ (.tmp 6) = .pointer (some ⟨b6, 0, none⟩) := h6.trans rfl
                exact ⟨fun h => absurd (h.symm.trans h35) (by first | simp | simp [undef]), fun _ => by trivial⟩
              refine ob_det (c := undef) ?_ ?_
              · intro ρ W hk hC
                simp only [seen, obOp, List.getD_cons_zero, List.getD_cons_succ]
                rintro h36 h37 h35
                exact ⟨fun h => absurd (h.symm.trans h35) (by first | simp | simp [undef]), fun _ => by trivial⟩
              refine ob_det (c := undef) ?_ ?_
              · intro ρ W hk hC
                simp only [seen, obOp, List.getD_cons_zero, List.getD_cons_succ]
                rintro h38 h35
                exact ⟨fun h => absurd (h.symm.trans h35) (by first | simp | simp [undef]), fun _ => by trivial⟩
              refine ob_det (c := undef) ?_ ?_
              · intro ρ W hk hC
                simp only [seen, obOp, List.getD_cons_zero, List.getD_cons_succ]
                rintro h35 h39 h30
                exact ⟨fun h => absurd (h.symm.trans h30) (by first | simp | simp [undef]), fun _ => by trivial⟩
              refine ob_det (c := undef) ?_ ?_
              · intro ρ W hk hC
                simp only [seen, obOp, List.getD_cons_zero, List.getD_cons_succ]
                rintro h40 h30
                exact ⟨fun h => absurd (h.symm.trans h30) (by first | simp | simp [undef]), fun _ => by trivial⟩
              refine ob_det (c := undef) ?_ ?_
              · intro ρ W hk hC
                simp only [seen, obOp, List.getD_cons_zero]
                rintro h1 h41
                replace h1 : ρ (.tmp 1) = .pointer (some ⟨w.heap.size, 0, none⟩) := h1.trans rfl
                exact ⟨fun h => absurd (h.symm.trans h41) (by first | simp | simp [undef]), fun _ => by trivial⟩
              refine ob_det (c := undef) ?_ ?_
              · intro ρ W hk hC
                simp only [seen, obOp, List.getD_cons_zero, List.getD_cons_succ]
                rintro h6 h41
                replace h6 : ρ (.tmp 6) = .pointer (some ⟨b6, 0, none⟩) := h6.trans rfl
                exact ⟨fun h => absurd (h.symm.trans h41) (by first | simp | simp [undef]), fun _ => by trivial⟩
              refine ob_det (c := undef) ?_ ?_
              · intro ρ W hk hC
                simp only [seen, obOp, List.getD_cons_zero, List.getD_cons_succ]
                rintro h42 h43 h41
                exact ⟨fun h => absurd (h.symm.trans h41) (by first | simp | simp [undef]), fun _ => by trivial⟩
              refine ob_det (c := undef) ?_ ?_
              · intro ρ W hk hC
                simp only [seen, obOp, List.getD_cons_zero, List.getD_cons_succ]
                rintro h5 h41
                replace h5 : ρ (.tmp 5) = .pointer (some ⟨b5, 0, none⟩) := h5.trans rfl
                exact ⟨fun h => absurd (h.symm.trans h41) (by first | simp | simp [undef]), fun _ => by trivial⟩
              refine ob_det (c := undef) ?_ ?_
              · intro ρ W hk hC
                simp only [seen, obOp, List.getD_cons_zero, List.getD_cons_succ]
                rintro h44 h45 h41
                exact ⟨fun h => absurd (h.symm.trans h41) (by first | simp | simp [undef]), fun _ => by trivial⟩
              refine ob_det (c := undef) ?_ ?_
              · intro ρ W hk hC
                simp only [seen, obOp, List.getD_cons_zero, List.getD_cons_succ]
                rintro h41 h46 h30
                exact ⟨fun h => absurd (h.symm.trans h30) (by first | simp | simp [undef]), fun _ => by trivial⟩
              refine ob_det (c := .bool false) ?_ ?_
              · intro ρ W hk hC
                simp only [seen, obOp, List.getD_cons_zero, List.getD_cons_succ]
                rintro h30 h47
                exact rel_value (by simp [go_sem, h30, h47, hk.const]) hC
              intro vs w5 hC5
              simp only [endSeen, List.getD_cons_zero]
              intro h48
              simp only [writeAll, List.setIfInBounds_toArray, List.set_cons_zero, List.set_cons_succ, h48]
              refine HK1.out _ _ ?_
              gi_wp2
              refine ⟨hC5, fun t ht => ?_⟩
              rcases List.mem_append.1 ht with ht | ht
              · exact HI.out t ht
              · rw [List.mem_singleton.1 ht]; exact HJB.out
        have hqE : ∀ V', (Op.equalIn 10000 49 (.agg #[.int .i64 zs, .int .i64 zp]) (.agg #[.int .i64 (-1), .int .i64 0])).run Tryz.prog V' = .ok false V' := fun V' => by rw [eqQ_portI, decide_eq_false hE]
        have hnE : decide ((⟨zs, zp⟩ : Prt) = endP) = false := decide_eq_false (fun h => hE (by cases h; exact ⟨rfl, rfl⟩))
        rw [hnE, Bool.false_or] at hjb
        clear hE hnE
        unfold Lay.val at HH0 HY0
        by_cases hsi : zs = (i : Nat)
        · subst hsi
          have HJB := Lib.hid (show joinB L (i : Nat) j = false by rw [hjb]; simp)
          clear HH0 HY0 hjb
          focus
              refine wpIn_region_rel_below (.inr ⟨l, rfl⟩) [([(6, none)], none), ([], none), ([(27, some 1), (28, some 0)], none), ([(29, some 0)], none), ([(6, none), (30, some 0)], some (30, true)), ([(31, some 0), (30, some 1)], some (30, true)), ([(3, none), (30, some 2)], some (30, true)), ([(32, some 1), (33, some 0), (30, some 3)], some (30, true)), ([(34, some 0), (30, some 4)], some (30, true)), ([(1, none), (35, some 0)], some (35, false)), ([(6, none), (35, some 1)], some (35, false)), ([(36, some 1), (37, some 0), (35, some 2)], some (35, false)), ([(38, some 0), (35, some 3)], some (35, false)), ([(35, some 4), (39, some 0), (30, some 9)], some (30, true)), ([(40, some 0), (30, some 10)], some (30, true)), ([(1, none), (41, some 0)], some (41, false)), ([(6, none), (41, some 1)], some (41, false)), ([(42, some 1), (43, some 0), (41, some 2)], some (41, false)), ([(5, none), (41, some 3)], some (41, false)), ([(44, some 1), (45, some 0), (41, some 4)], some (41, false)), ([(41, some 5), (46, some 0), (30, some 16)], some (30, true)), ([(30, some 17), (47, some 0)], none)] [(0, 48)] (by kernel_rfl) (by kernel_rfl) (by kernel_rfl) ?_
              refine ob_det (c := .agg #[.int .i64 (i : Nat), .int .i64 zp]) ?_ ?_
              · intro ρ W hk hC
                simp only [seen, obOp]
                rintro h6
                replace h6 : ρ (.tmp 6) = .pointer (some ⟨b6, 0, none⟩) := h6.trans rfl
                exact rel_value (by simp [go_sem, h6, y0 W hC, y1 W hC]) hC
              refine ob_det (c := .agg #[.int .i64 (-1), .int .i64 0]) ?_ ?_
              · intro ρ W hk hC
                simp only [seen, obOp]
                exact rel_value (by simp [go_sem, hk.global, e0 W hC, e1 W hC]) hC
              refine ob_det (c := .bool true) ?_ ?_
              · intro ρ W hk hC
                simp only [seen, obOp, List.getD_cons_zero, List.getD_cons_succ]
                rintro h27 h28
                exact rel_value (by simp [go_sem, h27, h28, hqE]) hC
              refine ob_det (c := .bool true) ?_ ?_
              · intro ρ W hk hC
                simp only [seen, obOp, List.getD_cons_zero]
                rintro h29
                exact rel_value (by simp [go_sem, h29]) hC
              refine ob_det (c := .pointer (some ⟨b6, 0, none⟩)) ?_ ?_
              · intro ρ W hk hC
                simp only [seen, obOp, List.getD_cons_zero]
                rintro h6 h30
                replace h6 : ρ (.tmp 6) = .pointer (some ⟨b6, 0, none⟩) := h6.trans rfl
                refine ⟨fun _ => ?_, fun hn => absurd h30 hn⟩
                exact rel_value (by simp [go_sem, h6]) hC
              refine ob_det (c := .int .i64 (i : Nat)) ?_ ?_
              · intro ρ W hk hC
                simp only [seen, obOp, List.getD_cons_zero, List.getD_cons_succ]
                rintro h31 h30
                refine ⟨fun _ => ?_, fun hn => absurd h30 hn⟩
                exact rel_value (by simp [go_sem, h31, y0 W hC]) hC
              refine ob_det (c := .int .i64 (i : Nat)) ?_ ?_
              · intro ρ W hk hC
                simp only [seen, obOp, List.getD_cons_zero, List.getD_cons_succ]
                rintro h3 h30
                replace h3 : ρ (.tmp 3) = .pointer (some ⟨wr.heap.size, 0, none⟩) := h3.trans rfl
                refine ⟨fun _ => ?_, fun hn => absurd h30 hn⟩
                exact rel_value (by simp [go_sem, h3, x3 W hC]) hC
              refine ob_det (c := .bool true) ?_ ?_
              · intro ρ W hk hC
                simp only [seen, obOp, List.getD_cons_zero, List.getD_cons_succ]
                rintro h32 h33 h30
                refine ⟨fun _ => ?_, fun hn => absurd h30 hn⟩
                exact rel_value (by simp [go_sem, h32, h33]) hC
              refine ob_det (c := .bool true) ?_ ?_
              · intro ρ W hk hC
                simp only [seen, obOp, List.getD_cons_zero, List.getD_cons_succ]
                rintro h34 h30
                refine ⟨fun _ => ?_, fun hn => absurd h30 hn⟩
                exact rel_value (by simp [go_sem, h34]) hC
              refine ob_det (c := undef) ?_ ?_
              · intro ρ W hk hC
                simp only [seen, obOp, List.getD_cons_zero]
                rintro h1 h35
                replace h1 : ρ (.tmp 1) = .pointer (some ⟨w.heap.size, 0, none⟩) := h1.trans rfl
                exact ⟨fun h => absurd (h.symm.trans h35) (by first | simp | simp [undef]), fun _ => by trivial⟩
              refine ob_det (c := undef) ?_ ?_
              · intro ρ W hk hC
                simp only [seen, obOp, List.getD_cons_zero, List.getD_cons_succ]
                rintro h6 h35
                replace h6 : ρ (.tmp 6) = .pointer (some ⟨b6, 0, none⟩) := h6.trans rfl
                exact ⟨fun h => absurd (h.symm.trans h35) (by first | simp | simp [undef]), fun _ => by trivial⟩
              refine ob_det (c := undef) ?_ ?_
              · intro ρ W hk hC
                simp only [seen, obOp, List.getD_cons_zero, List.getD_cons_succ]
                rintro h36 h37 h35
                exact ⟨fun h => absurd (h.symm.trans h35) (by first | simp | simp [undef]), fun _ => by trivial⟩
              refine ob_det (c := undef) ?_ ?_
              · intro ρ W hk hC
                simp only [seen, obOp, List.getD_cons_zero, List.getD_cons_succ]
                rintro h38 h35
                exact ⟨fun h => absurd (h.symm.trans h35) (by first | simp | simp [undef]), fun _ => by trivial⟩
              refine ob_det (c := .bool true) ?_ ?_
              · intro ρ W hk hC
                simp only [seen, obOp, List.getD_cons_zero, List.getD_cons_succ]
                rintro h35 h39 h30
                refine ⟨fun _ => ?_, fun hn => absurd h30 hn⟩
                exact rel_value (by simp [go_sem, h35, h39, hk.const]) hC
              refine ob_det (c := .bool true) ?_ ?_
              · intro ρ W hk hC
                simp only [seen, obOp, List.getD_cons_zero, List.getD_cons_succ]
                rintro h40 h30
                refine ⟨fun _ => ?_, fun hn => absurd h30 hn⟩
                exact rel_value (by simp [go_sem, h40]) hC
              refine ob_det (c := undef) ?_ ?_
              · intro ρ W hk hC
                simp only [seen, obOp, List.getD_cons_zero]
                rintro h1 h41
                replace h1 : ρ (.tmp 1) = .pointer (some ⟨w.heap.size, 0, none⟩) := h1.trans rfl
                exact ⟨fun h => absurd (h.symm.trans h41) (by first | simp | simp [undef]), fun _ => by trivial⟩
              refine ob_det (c := undef) ?_ ?_
              · intro ρ W hk hC
                simp only [seen, obOp, List.getD_cons_zero, List.getD_cons_succ]
                rintro h6 h41
                replace h6 : ρ (.tmp 6) = .pointer (some ⟨b6, 0, none⟩) := h6.trans rfl
                exact ⟨fun h => absurd (h.symm.trans h41) (by first | simp | simp [undef]), fun _ => by trivial⟩
              refine ob_det (c := undef) ?_ ?_
              · intro ρ W hk hC
                simp only [seen, obOp, List.getD_cons_zero, List.getD_cons_succ]
                rintro h42 h43 h41
                exact ⟨fun h => absurd (h.symm.trans h41) (by first | simp | simp [undef]), fun _ => by trivial⟩
              refine ob_det (c := undef) ?_ ?_
              · intro ρ W hk hC
                simp only [seen, obOp, List.getD_cons_zero, List.getD_cons_succ]
                rintro h5 h41
                replace h5 : ρ (.tmp 5) = .pointer (some ⟨b5, 0, none⟩) := h5.trans rfl
                exact ⟨fun h => absurd (h.symm.trans h41) (by first | simp | simp [undef]), fun _ => by trivial⟩
              refine ob_det (c := undef) ?_ ?_
              · intro ρ W hk hC
                simp only [seen, obOp, List.getD_cons_zero, List.getD_cons_succ]
                rintro h44 h45 h41
                exact ⟨fun h => absurd (h.symm.trans h41) (by first | simp | simp [undef]), fun _ => by trivial⟩
              refine ob_det (c := .bool true) ?_ ?_
              · intro ρ W hk hC
                simp only [seen, obOp, List.getD_cons_zero, List.getD_cons_succ]
                rintro h41 h46 h30
                refine ⟨fun _ => ?_, fun hn => absurd h30 hn⟩
                exact rel_value (by simp [go_sem, h41, h46, hk.const]) hC
              refine ob_det (c := .bool true) ?_ ?_
              · intro ρ W hk hC
                simp only [seen, obOp, List.getD_cons_zero, List.getD_cons_succ]
                rintro h30 h47
                exact rel_value (by simp [go_sem, h30, h47, hk.const]) hC
              intro vs w5 hC5
              simp only [endSeen, List.getD_cons_zero]
              intro h48
              simp only [writeAll, List.setIfInBounds_toArray, List.set_cons_zero, List.set_cons_succ, h48]
              have eT5 := (hC5.cell (p := ⟨w.heap.size + 1, 0, none⟩) HTW.out.2.2).trans HTW.out.1
              have fT5 := (hC5.frozen (p := ⟨w.heap.size + 1, 0, none⟩) HTW.out.2.2).trans HTW.out.2.1
              refine HK1.out _ _ ?_
              gi_wp2
              exact ⟨(Writes.of_below (A := fun g => g = w.heap.size + 1) hC5).setCell (A := fun g => g = w.heap.size + 1) (p := ⟨w.heap.size + 1, 0, none⟩) rfl _, rfl, ⟨j, by simp, HJB.out⟩, by simp [go_sem, eT5]⟩
        rw [decide_eq_false hsi, Bool.not_false, Bool.true_and] at hjb
        cases hh : hasB L zs zp with
        | false =>
          rw [hh] at HH0 hjb
          have HH := Lib.hid HH0
          have HJB := Lib.hid (show joinB L (i : Nat) j = false by rw [hjb]; rfl)
          clear HH0 HY0 hjb hh
          focus
              refine wpIn_region_rel_below (.inr ⟨l, rfl⟩) [([(6, none)], none), ([], none), ([(27, some 1), (28, some 0)], none), ([(29, some 0)], none), ([(6, none), (30, some 0)], some (30, true)), ([(31, some 0), (30, some 1)], some (30, true)), ([(3, none), (30, some 2)], some (30, true)), ([(32, some 1), (33, some 0), (30, some 3)], some (30, true)), ([(34, some 0), (30, some 4)], some (30, true)), ([(1, none), (35, some 0)], some (35, false)), ([(6, none), (35, some 1)], some (35, false)), ([(36, some 1), (37, some 0), (35, some 2)], some (35, false)), ([(38, some 0), (35, some 3)], some (35, false)), ([(35, some 4), (39, some 0), (30, some 9)], some (30, true)), ([(40, some 0), (30, some 10)], some (30, true)), ([(1, none), (41, some 0)], some (41, false)), ([(6, none), (41, some 1)], some (41, false)), ([(42, some 1), (43, some 0), (41, some 2)], some (41, false)), ([(5, none), (41, some 3)], some (41, false)), ([(44, some 1), (45, some 0), (41, some 4)], some (41, false)), ([(41, some 5), (46, some 0), (30, some 16)], some (30, true)), ([(30, some 17), (47, some 0)], none)] [(0, 48)] (by kernel_rfl) (by kernel_rfl) (by kernel_rfl) ?_
              refine ob_det (c := .agg #[.int .i64 zs, .int .i64 zp]) ?_ ?_
              · intro ρ W hk hC
                simp only [seen, obOp]
                rintro h6
                replace h6 : ρ (.tmp 6) = .pointer (some ⟨b6, 0, none⟩) := h6.trans rfl
                exact rel_value (by simp [go_sem, h6, y0 W hC, y1 W hC]) hC
              refine ob_det (c := .agg #[.int .i64 (-1), .int .i64 0]) ?_ ?_
              · intro ρ W hk hC
                simp only [seen, obOp]
                exact rel_value (by simp [go_sem, hk.global, e0 W hC, e1 W hC]) hC
              refine ob_det (c := .bool true) ?_ ?_
              · intro ρ W hk hC
                simp only [seen, obOp, List.getD_cons_zero, List.getD_cons_succ]
                rintro h27 h28
                exact rel_value (by simp [go_sem, h27, h28, hqE]) hC
              refine ob_det (c := .bool true) ?_ ?_
              · intro ρ W hk hC
                simp only [seen, obOp, List.getD_cons_zero]
                rintro h29
                exact rel_value (by simp [go_sem, h29]) hC
              refine ob_det (c := .pointer (some ⟨b6, 0, none⟩)) ?_ ?_
              · intro ρ W hk hC
                simp only [seen, obOp, List.getD_cons_zero]
                rintro h6 h30
                replace h6 : ρ (.tmp 6) = .pointer (some ⟨b6, 0, none⟩) := h6.trans rfl
                refine ⟨fun _ => ?_, fun hn => absurd h30 hn⟩
                exact rel_value (by simp [go_sem, h6]) hC
              refine ob_det (c := .int .i64 zs) ?_ ?_
              · intro ρ W hk hC
                simp only [seen, obOp, List.getD_cons_zero, List.getD_cons_succ]
                rintro h31 h30
                refine ⟨fun _ => ?_, fun hn => absurd h30 hn⟩
                exact rel_value (by simp [go_sem, h31, y0 W hC]) hC
              refine ob_det (c := .int .i64 (i : Nat)) ?_ ?_
              · intro ρ W hk hC
                simp only [seen, obOp, List.getD_cons_zero, List.getD_cons_succ]
                rintro h3 h30
                replace h3 : ρ (.tmp 3) = .pointer (some ⟨wr.heap.size, 0, none⟩) := h3.trans rfl
                refine ⟨fun _ => ?_, fun hn => absurd h30 hn⟩
                exact rel_value (by simp [go_sem, h3, x3 W hC]) hC
              refine ob_det (c := .bool false) ?_ ?_
              · intro ρ W hk hC
                simp only [seen, obOp, List.getD_cons_zero, List.getD_cons_succ]
                rintro h32 h33 h30
                refine ⟨fun _ => ?_, fun hn => absurd h30 hn⟩
                exact rel_value (by simp [go_sem, h32, h33, hsi]) hC
              refine ob_det (c := .bool false) ?_ ?_
              · intro ρ W hk hC
                simp only [seen, obOp, List.getD_cons_zero, List.getD_cons_succ]
                rintro h34 h30
                refine ⟨fun _ => ?_, fun hn => absurd h30 hn⟩
                exact rel_value (by simp [go_sem, h34]) hC
              refine ob_det (c := .agg #[.slice (some ⟨b, off, none⟩) L.secs.length p0, .slice a1 L.sigs.length p1, .slice a2 L.exits.length p2, .slice a3 L.flanks.length p3, .int .i64 L.t0, .int .i64 L.t1, .int .i64 L.t2, .int .i64 L.t3, .int .i64 L.t4, .int .i64 L.t5, .int .i64 L.t6]) ?_ ?_
              · intro ρ W hk hC
                simp only [seen, obOp, List.getD_cons_zero]
                rintro h1 h35
                replace h1 : ρ (.tmp 1) = .pointer (some ⟨w.heap.size, 0, none⟩) := h1.trans rfl
                refine ⟨fun _ => ?_, fun hn => absurd h35 hn⟩
                exact rel_value (runLoad h1 (HBX.out.below hC)) hC
              refine ob_det (c := .agg #[.int .i64 zs, .int .i64 zp]) ?_ ?_
              · intro ρ W hk hC
                simp only [seen, obOp, List.getD_cons_zero, List.getD_cons_succ]
                rintro h6 h35
                replace h6 : ρ (.tmp 6) = .pointer (some ⟨b6, 0, none⟩) := h6.trans rfl
                refine ⟨fun _ => ?_, fun hn => absurd h35 hn⟩
                exact rel_value (by simp [go_sem, h6, y0 W hC, y1 W hC]) hC
              refine ob_det (c := .bool false) ?_ ?_
              · intro ρ W hk hC
                simp only [seen, obOp, List.getD_cons_zero, List.getD_cons_succ]
                rintro h36 h37 h35
                refine ⟨fun _ => ?_, fun hn => absurd h35 hn⟩
                exact rel_call (f := 51) (args := #[.agg #[.slice (some ⟨b, off, none⟩) L.secs.length p0, .slice a1 L.sigs.length p1, .slice a2 L.exits.length p2, .slice a3 L.flanks.length p3, .int .i64 L.t0, .int .i64 L.t1, .int .i64 L.t2, .int .i64 L.t3, .int .i64 L.t4, .int .i64 L.t5, .int .i64 L.t6], .agg #[.int .i64 zs, .int .i64 zp]]) (by simp [go_sem, h36, h37, hk.func]) hC (HH.out W hC)
              refine ob_det (c := .bool true) ?_ ?_
              · intro ρ W hk hC
                simp only [seen, obOp, List.getD_cons_zero, List.getD_cons_succ]
                rintro h38 h35
                refine ⟨fun _ => ?_, fun hn => absurd h35 hn⟩
                exact rel_value (by simp [go_sem, h38]) hC
              refine ob_det (c := .bool true) ?_ ?_
              · intro ρ W hk hC
                simp only [seen, obOp, List.getD_cons_zero, List.getD_cons_succ]
                rintro h35 h39 h30
                refine ⟨fun _ => ?_, fun hn => absurd h30 hn⟩
                exact rel_value (by simp [go_sem, h35, h39, hk.const]) hC
              refine ob_det (c := .bool true) ?_ ?_
              · intro ρ W hk hC
                simp only [seen, obOp, List.getD_cons_zero, List.getD_cons_succ]
                rintro h40 h30
                refine ⟨fun _ => ?_, fun hn => absurd h30 hn⟩
                exact rel_value (by simp [go_sem, h40]) hC
              refine ob_det (c := undef) ?_ ?_
              · intro ρ W hk hC
                simp only [seen, obOp, List.getD_cons_zero]
                rintro h1 h41
                replace h1 : ρ (.tmp 1) = .pointer (some ⟨w.heap.size, 0, none⟩) := h1.trans rfl
                exact ⟨fun h => absurd (h.symm.trans h41) (by first | simp | simp [undef]), fun _ => by trivial⟩
              refine ob_det (c := undef) ?_ ?_
              · intro ρ W hk hC
                simp only [seen, obOp, List.getD_cons_zero, List.getD_cons_succ]
                rintro h6 h41
                replace h6 : ρ (.tmp 6) = .pointer (some ⟨b6, 0, none⟩) := h6.trans rfl
                exact ⟨fun h => absurd (h.symm.trans h41) (by first | simp | simp [undef]), fun _ => by trivial⟩
              refine ob_det (c := undef) ?_ ?_
              · intro ρ W hk hC
                simp only [seen, obOp, List.getD_cons_zero, List.getD_cons_succ]
                rintro h42 h43 h41
                exact ⟨fun h => absurd (h.symm.trans h41) (by first | simp | simp [undef]), fun _ => by trivial⟩
              refine ob_det (c := undef) ?_ ?_
              · intro ρ W hk hC
                simp only [seen, obOp, List.getD_cons_zero, List.getD_cons_succ]
                rintro h5 h41
                replace h5 : ρ (.tmp 5) = .pointer (some ⟨b5, 0, none⟩) := h5.trans rfl
                exact ⟨fun h => absurd (h.symm.trans h41) (by first | simp | simp [undef]), fun _ => by trivial⟩
              refine ob_det (c := undef) ?_ ?_
              · intro ρ W hk hC
                simp only [seen, obOp, List.getD_cons_zero, List.getD_cons_succ]
                rintro h44 h45 h41
                exact ⟨fun h => absurd (h.symm.trans h41) (by first | simp | simp [undef]), fun _ => by trivial⟩
              refine ob_det (c := .bool true) ?_ ?_
              · intro ρ W hk hC
                simp only [seen, obOp, List.getD_cons_zero, List.getD_cons_succ]
                rintro h41 h46 h30
                refine ⟨fun _ => ?_, fun hn => absurd h30 hn⟩
                exact rel_value (by simp [go_sem, h41, h46, hk.const]) hC
              refine ob_det (c := .bool true) ?_ ?_
              · intro ρ W hk hC
                simp only [seen, obOp, List.getD_cons_zero, List.getD_cons_succ]
                rintro h30 h47
                exact rel_value (by simp [go_sem, h30, h47, hk.const]) hC
              intro vs w5 hC5
              simp only [endSeen, List.getD_cons_zero]
              intro h48
              simp only [writeAll, List.setIfInBounds_toArray, List.set_cons_zero, List.set_cons_succ, h48]
              have eT5 := (hC5.cell (p := ⟨w.heap.size + 1, 0, none⟩) HTW.out.2.2).trans HTW.out.1
              have fT5 := (hC5.frozen (p := ⟨w.heap.size + 1, 0, none⟩) HTW.out.2.2).trans HTW.out.2.1
              refine HK1.out _ _ ?_
              gi_wp2
              exact ⟨(Writes.of_below (A := fun g => g = w.heap.size + 1) hC5).setCell (A := fun g => g = w.heap.size + 1) (p := ⟨w.heap.size + 1, 0, none⟩) rfl _, rfl, ⟨j, by simp, HJB.out⟩, by simp [go_sem, eT5]⟩
        | true =>
          rw [hh, Bool.true_and] at hjb
          rw [hh] at HH0
          have HH := Lib.hid HH0
          generalize beyL L zs zp = y at HY0 hjb
          obtain ⟨ys, yp⟩ := y
          dsimp only at HY0 hjb
          have HY := Lib.hid HY0
          clear HH0 HY0 hh
          by_cases hP : ys = (i : Nat) ∧ yp = (j : Nat)
          · have hqP : ∀ V', (Op.equalIn 10000 49 (.agg #[.int .i64 ys, .int .i64 yp]) (.agg #[.int .i64 (i : Nat), .int .i64 (j : Nat)])).run Tryz.prog V' = .ok true V' := fun V' => by rw [eqQ_portI, decide_eq_true hP]
            have HJB := Lib.hid (show joinB L (i : Nat) j = true by rw [hjb]; obtain ⟨rfl, rfl⟩ := hP; simp)
            clear hP hjb
            focus
              refine wpIn_region_rel_below (.inr ⟨l, rfl⟩) [([(6, none)], none), ([], none), ([(27, some 1), (28, some 0)], none), ([(29, some 0)], none), ([(6, none), (30, some 0)], some (30, true)), ([(31, some 0), (30, some 1)], some (30, true)), ([(3, none), (30, some 2)], some (30, true)), ([(32, some 1), (33, some 0), (30, some 3)], some (30, true)), ([(34, some 0), (30, some 4)], some (30, true)), ([(1, none), (35, some 0)], some (35, false)), ([(6, none), (35, some 1)], some (35, false)), ([(36, some 1), (37, some 0), (35, some 2)], some (35, false)), ([(38, some 0), (35, some 3)], some (35, false)), ([(35, some 4), (39, some 0), (30, some 9)], some (30, true)), ([(40, some 0), (30, some 10)], some (30, true)), ([(1, none), (41, some 0)], some (41, false)), ([(6, none), (41, some 1)], some (41, false)), ([(42, some 1), (43, some 0), (41, some 2)], some (41, false)), ([(5, none), (41, some 3)], some (41, false)), ([(44, some 1), (45, some 0), (41, some 4)], some (41, false)), ([(41, some 5), (46, some 0), (30, some 16)], some (30, true)), ([(30, some 17), (47, some 0)], none)] [(0, 48)] (by kernel_rfl) (by kernel_rfl) (by kernel_rfl) ?_
              refine ob_det (c := .agg #[.int .i64 zs, .int .i64 zp]) ?_ ?_
              · intro ρ W hk hC
                simp only [seen, obOp]
                rintro h6
                replace h6 : ρ (.tmp 6) = .pointer (some ⟨b6, 0, none⟩) := h6.trans rfl
                exact rel_value (by simp [go_sem, h6, y0 W hC, y1 W hC]) hC
              refine ob_det (c := .agg #[.int .i64 (-1), .int .i64 0]) ?_ ?_
              · intro ρ W hk hC
                simp only [seen, obOp]
                exact rel_value (by simp [go_sem, hk.global, e0 W hC, e1 W hC]) hC
              refine ob_det (c := .bool true) ?_ ?_
              · intro ρ W hk hC
                simp only [seen, obOp, List.getD_cons_zero, List.getD_cons_succ]
                rintro h27 h28
                exact rel_value (by simp [go_sem, h27, h28, hqE]) hC
              refine ob_det (c := .bool true) ?_ ?_
              · intro ρ W hk hC
                simp only [seen, obOp, List.getD_cons_zero]
                rintro h29
                exact rel_value (by simp [go_sem, h29]) hC
              refine ob_det (c := .pointer (some ⟨b6, 0, none⟩)) ?_ ?_
              · intro ρ W hk hC
                simp only [seen, obOp, List.getD_cons_zero]
                rintro h6 h30
                replace h6 : ρ (.tmp 6) = .pointer (some ⟨b6, 0, none⟩) := h6.trans rfl
                refine ⟨fun _ => ?_, fun hn => absurd h30 hn⟩
                exact rel_value (by simp [go_sem, h6]) hC
              refine ob_det (c := .int .i64 zs) ?_ ?_
              · intro ρ W hk hC
                simp only [seen, obOp, List.getD_cons_zero, List.getD_cons_succ]
                rintro h31 h30
                refine ⟨fun _ => ?_, fun hn => absurd h30 hn⟩
                exact rel_value (by simp [go_sem, h31, y0 W hC]) hC
              refine ob_det (c := .int .i64 (i : Nat)) ?_ ?_
              · intro ρ W hk hC
                simp only [seen, obOp, List.getD_cons_zero, List.getD_cons_succ]
                rintro h3 h30
                replace h3 : ρ (.tmp 3) = .pointer (some ⟨wr.heap.size, 0, none⟩) := h3.trans rfl
                refine ⟨fun _ => ?_, fun hn => absurd h30 hn⟩
                exact rel_value (by simp [go_sem, h3, x3 W hC]) hC
              refine ob_det (c := .bool false) ?_ ?_
              · intro ρ W hk hC
                simp only [seen, obOp, List.getD_cons_zero, List.getD_cons_succ]
                rintro h32 h33 h30
                refine ⟨fun _ => ?_, fun hn => absurd h30 hn⟩
                exact rel_value (by simp [go_sem, h32, h33, hsi]) hC
              refine ob_det (c := .bool false) ?_ ?_
              · intro ρ W hk hC
                simp only [seen, obOp, List.getD_cons_zero, List.getD_cons_succ]
                rintro h34 h30
                refine ⟨fun _ => ?_, fun hn => absurd h30 hn⟩
                exact rel_value (by simp [go_sem, h34]) hC
              refine ob_det (c := .agg #[.slice (some ⟨b, off, none⟩) L.secs.length p0, .slice a1 L.sigs.length p1, .slice a2 L.exits.length p2, .slice a3 L.flanks.length p3, .int .i64 L.t0, .int .i64 L.t1, .int .i64 L.t2, .int .i64 L.t3, .int .i64 L.t4, .int .i64 L.t5, .int .i64 L.t6]) ?_ ?_
              · intro ρ W hk hC
                simp only [seen, obOp, List.getD_cons_zero]
                rintro h1 h35
                replace h1 : ρ (.tmp 1) = .pointer (some ⟨w.heap.size, 0, none⟩) := h1.trans rfl
                refine ⟨fun _ => ?_, fun hn => absurd h35 hn⟩
                exact rel_value (runLoad h1 (HBX.out.below hC)) hC
              refine ob_det (c := .agg #[.int .i64 zs, .int .i64 zp]) ?_ ?_
              · intro ρ W hk hC
                simp only [seen, obOp, List.getD_cons_zero, List.getD_cons_succ]
                rintro h6 h35
                replace h6 : ρ (.tmp 6) = .pointer (some ⟨b6, 0, none⟩) := h6.trans rfl
                refine ⟨fun _ => ?_, fun hn => absurd h35 hn⟩
                exact rel_value (by simp [go_sem, h6, y0 W hC, y1 W hC]) hC
              refine ob_det (c := .bool true) ?_ ?_
              · intro ρ W hk hC
                simp only [seen, obOp, List.getD_cons_zero, List.getD_cons_succ]
                rintro h36 h37 h35
                refine ⟨fun _ => ?_, fun hn => absurd h35 hn⟩
                exact rel_call (f := 51) (args := #[.agg #[.slice (some ⟨b, off, none⟩) L.secs.length p0, .slice a1 L.sigs.length p1, .slice a2 L.exits.length p2, .slice a3 L.flanks.length p3, .int .i64 L.t0, .int .i64 L.t1, .int .i64 L.t2, .int .i64 L.t3, .int .i64 L.t4, .int .i64 L.t5, .int .i64 L.t6], .agg #[.int .i64 zs, .int .i64 zp]]) (by simp [go_sem, h36, h37, hk.func]) hC (HH.out W hC)
              refine ob_det (c := .bool false) ?_ ?_
              · intro ρ W hk hC
                simp only [seen, obOp, List.getD_cons_zero, List.getD_cons_succ]
                rintro h38 h35
                refine ⟨fun _ => ?_, fun hn => absurd h35 hn⟩
                exact rel_value (by simp [go_sem, h38]) hC
              refine ob_det (c := .bool false) ?_ ?_
              · intro ρ W hk hC
                simp only [seen, obOp, List.getD_cons_zero, List.getD_cons_succ]
                rintro h35 h39 h30
                refine ⟨fun _ => ?_, fun hn => absurd h30 hn⟩
                exact rel_value (by simp [go_sem, h35, h39, hk.const]) hC
              refine ob_det (c := .bool false) ?_ ?_
              · intro ρ W hk hC
                simp only [seen, obOp, List.getD_cons_zero, List.getD_cons_succ]
                rintro h40 h30
                refine ⟨fun _ => ?_, fun hn => absurd h30 hn⟩
                exact rel_value (by simp [go_sem, h40]) hC
              refine ob_det (c := .agg #[.slice (some ⟨b, off, none⟩) L.secs.length p0, .slice a1 L.sigs.length p1, .slice a2 L.exits.length p2, .slice a3 L.flanks.length p3, .int .i64 L.t0, .int .i64 L.t1, .int .i64 L.t2, .int .i64 L.t3, .int .i64 L.t4, .int .i64 L.t5, .int .i64 L.t6]) ?_ ?_
              · intro ρ W hk hC
                simp only [seen, obOp, List.getD_cons_zero]
                rintro h1 h41
                replace h1 : ρ (.tmp 1) = .pointer (some ⟨w.heap.size, 0, none⟩) := h1.trans rfl
                refine ⟨fun _ => ?_, fun hn => absurd h41 hn⟩
                exact rel_value (runLoad h1 (HBX.out.below hC)) hC
              refine ob_det (c := .agg #[.int .i64 zs, .int .i64 zp]) ?_ ?_
              · intro ρ W hk hC
                simp only [seen, obOp, List.getD_cons_zero, List.getD_cons_succ]
                rintro h6 h41
                replace h6 : ρ (.tmp 6) = .pointer (some ⟨b6, 0, none⟩) := h6.trans rfl
                refine ⟨fun _ => ?_, fun hn => absurd h41 hn⟩
                exact rel_value (by simp [go_sem, h6, y0 W hC, y1 W hC]) hC
              refine ob_det (c := .agg #[.int .i64 ys, .int .i64 yp]) ?_ ?_
              · intro ρ W hk hC
                simp only [seen, obOp, List.getD_cons_zero, List.getD_cons_succ]
                rintro h42 h43 h41
                refine ⟨fun _ => ?_, fun hn => absurd h41 hn⟩
                exact rel_call (f := 34) (args := #[.agg #[.slice (some ⟨b, off, none⟩) L.secs.length p0, .slice a1 L.sigs.length p1, .slice a2 L.exits.length p2, .slice a3 L.flanks.length p3, .int .i64 L.t0, .int .i64 L.t1, .int .i64 L.t2, .int .i64 L.t3, .int .i64 L.t4, .int .i64 L.t5, .int .i64 L.t6], .agg #[.int .i64 zs, .int .i64 zp]]) (by simp [go_sem, h42, h43, hk.func]) hC (HY.out W hC)
              refine ob_det (c := .agg #[.int .i64 (i : Nat), .int .i64 (j : Nat)]) ?_ ?_
              · intro ρ W hk hC
                simp only [seen, obOp, List.getD_cons_zero, List.getD_cons_succ]
                rintro h5 h41
                replace h5 : ρ (.tmp 5) = .pointer (some ⟨b5, 0, none⟩) := h5.trans rfl
                refine ⟨fun _ => ?_, fun hn => absurd h41 hn⟩
                exact rel_value (by simp [go_sem, h5, x0 W hC, x1 W hC]) hC
              refine ob_det (c := .bool false) ?_ ?_
              · intro ρ W hk hC
                simp only [seen, obOp, List.getD_cons_zero, List.getD_cons_succ]
                rintro h44 h45 h41
                refine ⟨fun _ => ?_, fun hn => absurd h41 hn⟩
                exact rel_value (by simp [go_sem, h44, h45, hqP]) hC
              refine ob_det (c := .bool false) ?_ ?_
              · intro ρ W hk hC
                simp only [seen, obOp, List.getD_cons_zero, List.getD_cons_succ]
                rintro h41 h46 h30
                refine ⟨fun _ => ?_, fun hn => absurd h30 hn⟩
                exact rel_value (by simp [go_sem, h41, h46, hk.const]) hC
              refine ob_det (c := .bool false) ?_ ?_
              · intro ρ W hk hC
                simp only [seen, obOp, List.getD_cons_zero, List.getD_cons_succ]
                rintro h30 h47
                exact rel_value (by simp [go_sem, h30, h47, hk.const]) hC
              intro vs w5 hC5
              simp only [endSeen, List.getD_cons_zero]
              intro h48
              simp only [writeAll, List.setIfInBounds_toArray, List.set_cons_zero, List.set_cons_succ, h48]
              refine HK1.out _ _ ?_
              gi_wp2
              refine ⟨hC5, fun t ht => ?_⟩
              rcases List.mem_append.1 ht with ht | ht
              · exact HI.out t ht
              · rw [List.mem_singleton.1 ht]; exact HJB.out
          · have hqP : ∀ V', (Op.equalIn 10000 49 (.agg #[.int .i64 ys, .int .i64 yp]) (.agg #[.int .i64 (i : Nat), .int .i64 (j : Nat)])).run Tryz.prog V' = .ok false V' := fun V' => by rw [eqQ_portI, decide_eq_false hP]
            have HJB := Lib.hid (show joinB L (i : Nat) j = false by rw [hjb]; exact decide_eq_false (fun h => hP (by cases h; exact ⟨rfl, rfl⟩)))
            clear hP hjb
            focus
              refine wpIn_region_rel_below (.inr ⟨l, rfl⟩) [([(6, none)], none), ([], none), ([(27, some 1), (28, some 0)], none), ([(29, some 0)], none), ([(6, none), (30, some 0)], some (30, true)), ([(31, some 0), (30, some 1)], some (30, true)), ([(3, none), (30, some 2)], some (30, true)), ([(32, some 1), (33, some 0), (30, some 3)], some (30, true)), ([(34, some 0), (30, some 4)], some (30, true)), ([(1, none), (35, some 0)], some (35, false)), ([(6, none), (35, some 1)], some (35, false)), ([(36, some 1), (37, some 0), (35, some 2)], some (35, false)), ([(38, some 0), (35, some 3)], some (35, false)), ([(35, some 4), (39, some 0), (30, some 9)], some (30, true)), ([(40, some 0), (30, some 10)], some (30, true)), ([(1, none), (41, some 0)], some (41, false)), ([(6, none), (41, some 1)], some (41, false)), ([(42, some 1), (43, some 0), (41, some 2)], some (41, false)), ([(5, none), (41, some 3)], some (41, false)), ([(44, some 1), (45, some 0), (41, some 4)], some (41, false)), ([(41, some 5), (46, some 0), (30, some 16)], some (30, true)), ([(30, some 17), (47, some 0)], none)] [(0, 48)] (by kernel_rfl) (by kernel_rfl) (by kernel_rfl) ?_
              refine ob_det (c := .agg #[.int .i64 zs, .int .i64 zp]) ?_ ?_
              · intro ρ W hk hC
                simp only [seen, obOp]
                rintro h6
                replace h6 : ρ (.tmp 6) = .pointer (some ⟨b6, 0, none⟩) := h6.trans rfl
                exact rel_value (by simp [go_sem, h6, y0 W hC, y1 W hC]) hC
              refine ob_det (c := .agg #[.int .i64 (-1), .int .i64 0]) ?_ ?_
              · intro ρ W hk hC
                simp only [seen, obOp]
                exact rel_value (by simp [go_sem, hk.global, e0 W hC, e1 W hC]) hC
              refine ob_det (c := .bool true) ?_ ?_
              · intro ρ W hk hC
                simp only [seen, obOp, List.getD_cons_zero, List.getD_cons_succ]
                rintro h27 h28
                exact rel_value (by simp [go_sem, h27, h28, hqE]) hC
              refine ob_det (c := .bool true) ?_ ?_
              · intro ρ W hk hC
                simp only [seen, obOp, List.getD_cons_zero]
                rintro h29
                exact rel_value (by simp [go_sem, h29]) hC
              refine ob_det (c := .pointer (some ⟨b6, 0, none⟩)) ?_ ?_
              · intro ρ W hk hC
                simp only [seen, obOp, List.getD_cons_zero]
                rintro h6 h30
                replace h6 : ρ (.tmp 6) = .pointer (some ⟨b6, 0, none⟩) := h6.trans rfl
                refine ⟨fun _ => ?_, fun hn => absurd h30 hn⟩
                exact rel_value (by simp [go_sem, h6]) hC
              refine ob_det (c := .int .i64 zs) ?_ ?_
              · intro ρ W hk hC
                simp only [seen, obOp, List.getD_cons_zero, List.getD_cons_succ]
                rintro h31 h30
                refine ⟨fun _ => ?_, fun hn => absurd h30 hn⟩
                exact rel_value (by simp [go_sem, h31, y0 W hC]) hC
              refine ob_det (c := .int .i64 (i : Nat)) ?_ ?_
              · intro ρ W hk hC
                simp only [seen, obOp, List.getD_cons_zero, List.getD_cons_succ]
                rintro h3 h30
                replace h3 : ρ (.tmp 3) = .pointer (some ⟨wr.heap.size, 0, none⟩) := h3.trans rfl
                refine ⟨fun _ => ?_, fun hn => absurd h30 hn⟩
                exact rel_value (by simp [go_sem, h3, x3 W hC]) hC
              refine ob_det (c := .bool false) ?_ ?_
              · intro ρ W hk hC
                simp only [seen, obOp, List.getD_cons_zero, List.getD_cons_succ]
                rintro h32 h33 h30
                refine ⟨fun _ => ?_, fun hn => absurd h30 hn⟩
                exact rel_value (by simp [go_sem, h32, h33, hsi]) hC
              refine ob_det (c := .bool false) ?_ ?_
              · intro ρ W hk hC
                simp only [seen, obOp, List.getD_cons_zero, List.getD_cons_succ]
                rintro h34 h30
                refine ⟨fun _ => ?_, fun hn => absurd h30 hn⟩
                exact rel_value (by simp [go_sem, h34]) hC
              refine ob_det (c := .agg #[.slice (some ⟨b, off, none⟩) L.secs.length p0, .slice a1 L.sigs.length p1, .slice a2 L.exits.length p2, .slice a3 L.flanks.length p3, .int .i64 L.t0, .int .i64 L.t1, .int .i64 L.t2, .int .i64 L.t3, .int .i64 L.t4, .int .i64 L.t5, .int .i64 L.t6]) ?_ ?_
              · intro ρ W hk hC
                simp only [seen, obOp, List.getD_cons_zero]
                rintro h1 h35
                replace h1 : ρ (.tmp 1) = .pointer (some ⟨w.heap.size, 0, none⟩) := h1.trans rfl
                refine ⟨fun _ => ?_, fun hn => absurd h35 hn⟩
                exact rel_value (runLoad h1 (HBX.out.below hC)) hC
              refine ob_det (c := .agg #[.int .i64 zs, .int .i64 zp]) ?_ ?_
              · intro ρ W hk hC
                simp only [seen, obOp, List.getD_cons_zero, List.getD_cons_succ]
                rintro h6 h35
                replace h6 : ρ (.tmp 6) = .pointer (some ⟨b6, 0, none⟩) := h6.trans rfl
                refine ⟨fun _ => ?_, fun hn => absurd h35 hn⟩
                exact rel_value (by simp [go_sem, h6, y0 W hC, y1 W hC]) hC
              refine ob_det (c := .bool true) ?_ ?_
              · intro ρ W hk hC
                simp only [seen, obOp, List.getD_cons_zero, List.getD_cons_succ]
                rintro h36 h37 h35
                refine ⟨fun _ => ?_, fun hn => absurd h35 hn⟩
                exact rel_call (f := 51) (args := #[.agg #[.slice (some ⟨b, off, none⟩) L.secs.length p0, .slice a1 L.sigs.length p1, .slice a2 L.exits.length p2, .slice a3 L.flanks.length p3, .int .i64 L.t0, .int .i64 L.t1, .int .i64 L.t2, .int .i64 L.t3, .int .i64 L.t4, .int .i64 L.t5, .int .i64 L.t6], .agg #[.int .i64 zs, .int .i64 zp]]) (by simp [go_sem, h36, h37, hk.func]) hC (HH.out W hC)
              refine ob_det (c := .bool false) ?_ ?_
              · intro ρ W hk hC
                simp only [seen, obOp, List.getD_cons_zero, List.getD_cons_succ]
                rintro h38 h35
                refine ⟨fun _ => ?_, fun hn => absurd h35 hn⟩
                exact rel_value (by simp [go_sem, h38]) hC
              refine ob_det (c := .bool false) ?_ ?_
              · intro ρ W hk hC
                simp only [seen, obOp, List.getD_cons_zero, List.getD_cons_succ]
                rintro h35 h39 h30
                refine ⟨fun _ => ?_, fun hn => absurd h30 hn⟩
                exact rel_value (by simp [go_sem, h35, h39, hk.const]) hC
              refine ob_det (c := .bool false) ?_ ?_
              · intro ρ W hk hC
                simp only [seen, obOp, List.getD_cons_zero, List.getD_cons_succ]
                rintro h40 h30
                refine ⟨fun _ => ?_, fun hn => absurd h30 hn⟩
                exact rel_value (by simp [go_sem, h40]) hC
              refine ob_det (c := .agg #[.slice (some ⟨b, off, none⟩) L.secs.length p0, .slice a1 L.sigs.length p1, .slice a2 L.exits.length p2, .slice a3 L.flanks.length p3, .int .i64 L.t0, .int .i64 L.t1, .int .i64 L.t2, .int .i64 L.t3, .int .i64 L.t4, .int .i64 L.t5, .int .i64 L.t6]) ?_ ?_
              · intro ρ W hk hC
                simp only [seen, obOp, List.getD_cons_zero]
                rintro h1 h41
                replace h1 : ρ (.tmp 1) = .pointer (some ⟨w.heap.size, 0, none⟩) := h1.trans rfl
                refine ⟨fun _ => ?_, fun hn => absurd h41 hn⟩
                exact rel_value (runLoad h1 (HBX.out.below hC)) hC
              refine ob_det (c := .agg #[.int .i64 zs, .int .i64 zp]) ?_ ?_
              · intro ρ W hk hC
                simp only [seen, obOp, List.getD_cons_zero, List.getD_cons_succ]
                rintro h6 h41
                replace h6 : ρ (.tmp 6) = .pointer (some ⟨b6, 0, none⟩) := h6.trans rfl
                refine ⟨fun _ => ?_, fun hn => absurd h41 hn⟩
                exact rel_value (by simp [go_sem, h6, y0 W hC, y1 W hC]) hC
              refine ob_det (c := .agg #[.int .i64 ys, .int .i64 yp]) ?_ ?_
              · intro ρ W hk hC
                simp only [seen, obOp, List.getD_cons_zero, List.getD_cons_succ]
                rintro h42 h43 h41
                refine ⟨fun _ => ?_, fun hn => absurd h41 hn⟩
                exact rel_call (f := 34) (args := #[.agg #[.slice (some ⟨b, off, none⟩) L.secs.length p0, .slice a1 L.sigs.length p1, .slice a2 L.exits.length p2, .slice a3 L.flanks.length p3, .int .i64 L.t0, .int .i64 L.t1, .int .i64 L.t2, .int .i64 L.t3, .int .i64 L.t4, .int .i64 L.t5, .int .i64 L.t6], .agg #[.int .i64 zs, .int .i64 zp]]) (by simp [go_sem, h42, h43, hk.func]) hC (HY.out W hC)
              refine ob_det (c := .agg #[.int .i64 (i : Nat), .int .i64 (j : Nat)]) ?_ ?_
              · intro ρ W hk hC
                simp only [seen, obOp, List.getD_cons_zero, List.getD_cons_succ]
                rintro h5 h41
                replace h5 : ρ (.tmp 5) = .pointer (some ⟨b5, 0, none⟩) := h5.trans rfl
                refine ⟨fun _ => ?_, fun hn => absurd h41 hn⟩
                exact rel_value (by simp [go_sem, h5, x0 W hC, x1 W hC]) hC
              refine ob_det (c := .bool true) ?_ ?_
              · intro ρ W hk hC
                simp only [seen, obOp, List.getD_cons_zero, List.getD_cons_succ]
                rintro h44 h45 h41
                refine ⟨fun _ => ?_, fun hn => absurd h41 hn⟩
                exact rel_value (by simp [go_sem, h44, h45, hqP]) hC
              refine ob_det (c := .bool true) ?_ ?_
              · intro ρ W hk hC
                simp only [seen, obOp, List.getD_cons_zero, List.getD_cons_succ]
                rintro h41 h46 h30
                refine ⟨fun _ => ?_, fun hn => absurd h30 hn⟩
                exact rel_value (by simp [go_sem, h41, h46, hk.const]) hC
              refine ob_det (c := .bool true) ?_ ?_
              · intro ρ W hk hC
                simp only [seen, obOp, List.getD_cons_zero, List.getD_cons_succ]
                rintro h30 h47
                exact rel_value (by simp [go_sem, h30, h47, hk.const]) hC
              intro vs w5 hC5
              simp only [endSeen, List.getD_cons_zero]
              intro h48
              simp only [writeAll, List.setIfInBounds_toArray, List.set_cons_zero, List.set_cons_succ, h48]
              have eT5 := (hC5.cell (p := ⟨w.heap.size + 1, 0, none⟩) HTW.out.2.2).trans HTW.out.1
              have fT5 := (hC5.frozen (p := ⟨w.heap.size + 1, 0, none⟩) HTW.out.2.2).trans HTW.out.2.1
              refine HK1.out _ _ ?_
              gi_wp2
              exact ⟨(Writes.of_below (A := fun g => g = w.heap.size + 1) hC5).setCell (A := fun g => g = w.heap.size + 1) (p := ⟨w.heap.size + 1, 0, none⟩) rfl _, rfl, ⟨j, by simp, HJB.out⟩, by simp [go_sem, eT5]⟩
      case done =>
        rintro D ys W hD rfl hw hi hK
        have hmD := (HMV.out.2.below hw).cons (Nat.le_trans lwV hD) (fun D' h' => Nat.lt_of_lt_of_le (HMV.out.2.lt D' h') hD) hK
        have hXW := bchain HMV.out.1 hw
        have hfin : ∀ j', j' < i + 1 → secFine L j' = true := fun j' hj' => by
          by_cases e : j' = i
          · subst e; rw [HSF.out, Bool.true_and, List.all_eq_true]; exact hi
          · exact HM.out.2.2 j' (by omega)
        have HDN := Lib.hid (⟨hmD, hXW, hfin⟩ : _ ∧ _ ∧ _)
        clear hmD hXW hfin hw hi hK
        dsimp only
        go_wp2
        refine ⟨⟨i + 1, D :: Ds, _, _, _, _, _, _, _, _, _, _, _, _, _, rfl, hlt, HDN.out.2.1, HDN.out.1, HDN.out.2.2⟩, ?_⟩
        · simp [intOf]; omega
      case stop =>
        rintro D cd pre W hD hS hw ⟨rfl, ⟨j, hj, hf⟩, eT⟩ hK
        obtain rfl : r = false := HR.out.2.1 i hlt (by
          rw [HSF.out, Bool.true_and, List.all_eq_false]
          exact ⟨j, hS.subset hj, by rw [hf]; simp⟩)
        have hmD := (HMV.out.2.writes hw (by rintro g rfl; exact ⟨_, _, HV.out.2.2.2.2.2.1⟩)).cons (Nat.le_trans lwV hD) (fun D' h' => Nat.lt_of_lt_of_le (HMV.out.2.lt D' h') hD) hK
        have hbw : Below w.heap.size w W := hw.below (bchain HX.out.1 HMV.out.1) lwV (by rintro g rfl; omega)
        dsimp only
        go_wp2
        refine ⟨⟨_, hmD⟩, fun w' hb hk => ⟨.bool false, ?_, rfl, hbw.trans hb⟩⟩
        have e1 := cells_kept hk (b := w.heap.size + 1) (o := 0) (v := .bool false) (by simp [go_sem, eT])
        simp [results, Tryz.results80, go_sem, e1]
  · obtain rfl : i = L.secs.length := by omega
    obtain rfl : r = true := HR.out.2.2 (by have := H24.out; omega) HM.out.2.2
    have ltT : w.heap.size + 1 < X.heap.size := by rw [HX.out.2.2.2.2]; omega
    have eT : wr.cell? ⟨w.heap.size + 1, 0, none⟩ = some (.bool false) := (HM.out.1.cell (p := ⟨w.heap.size + 1, 0, none⟩) ltT).trans HX.out.2.2.1
    have fT : wr.frozen? ⟨w.heap.size + 1, 0, none⟩ = false := (HM.out.1.frozen (p := ⟨w.heap.size + 1, 0, none⟩) ltT).trans HX.out.2.2.2.1
    go_wp2_with fail
    have hw : Writes (fun g => g = w.heap.size + 1) wr (wr.setCell ⟨w.heap.size + 1, 0, none⟩ (.bool true)) := (Writes.refl (fun g => g = w.heap.size + 1) _).setCell (A := fun g => g = w.heap.size + 1) (p := ⟨w.heap.size + 1, 0, none⟩) rfl _
    have hbw : Below w.heap.size w (wr.setCell ⟨w.heap.size + 1, 0, none⟩ (.bool true)) := hw.below (bchain HX.out.1 HM.out.1) (Nat.le_trans HX.out.1.size HM.out.1.size) (by rintro g rfl; omega)
    refine ⟨⟨_, HM.out.2.1.writes hw (by rintro g rfl; exact ⟨_, _, eT⟩)⟩, fun w' hb hk => ⟨.bool true, ?_, rfl, hbw.trans hb⟩⟩
    have e1 := cells_kept hk (b := w.heap.size + 1) (o := 0) (v := .bool true) (by simp [go_sem, eT])
    simp [results, Tryz.results80, go_sem, e1]
end Go.Proofs.YtpcojaoeahdgcaaGreatDoor
