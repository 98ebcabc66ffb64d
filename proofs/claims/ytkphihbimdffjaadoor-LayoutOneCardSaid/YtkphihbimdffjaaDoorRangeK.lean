/-
  The law of 'for x := range f' in a plain walk, where the body and what assigns its variable lay blocks of their own and turn nothing that was there.
-/
import Derived.Test.YtkphihbimdffjaaDoorRangeE
namespace Go.Proofs.YtkphihbimdffjaaDoor
open Go.RowKit Go.Shelf

abbrev NoB : Nat → Prop := fun _ => False
abbrev NoT : TypeId → Prop := fun _ => False
/-- How the body of a round may be left. -/
def roundPostK {α : Type} (I : List α → Prop) (Ix : Code → List α → Prop) (xs : List α) (W : World) : Exit → Act → World → Prop
  | .normal, _, W' => Below W.heap.size W W' ∧ I xs
  | .ret, _, W' => Below W.heap.size W W' ∧ Ix .ret xs
  | .exit id, _, W' => Below W.heap.size W W' ∧ Ix (.exit id) xs
  | .goto t, _, W' => Below W.heap.size W W' ∧ Ix (.goto t) xs
  | .panic _, _, _ => False
  | .outgrown, _, _ => False
theorem same_of_grown {W W' : World} {row : Option Nat} {B : Nat} (hg : W.grownBy W' row) (hr : ∀ r, row = some r → B ≤ r ∧ ∃ o : Obj, W.heap[r]? = some o ∧ o.isCells = false) : SameCells W W' := by
  intro b o ho hc
  refine (hg.block b (Array.getElem?_eq_some_iff.1 ho).1 (fun e => ?_)).trans ho
  obtain ⟨_, o', h2, h3⟩ := hr b e.symm
  rw [h2] at ho
  cases ho
  rw [hc] at h3
  cases h3
theorem ownFrom_below_and {β : Type} {w : World} (I : β → Prop) : OwnFrom w.heap.size (fun (s : β) W => I s ∧ Below w.heap.size w W) := by
  rintro s W W' row ⟨hi, hw⟩ hg hr
  refine ⟨hi, ⟨hg.os.trans hw.os, hg.tape.trans hw.tape, hg.output.trans hw.output, Nat.le_trans hw.size hg.size, fun b hb => ?_⟩⟩
  have h1 := hw.size
  exact (hg.block b (by omega) (fun e => by have := (hr b e.symm).1; omega)).trans (hw.block b hb)

/-- **'for x := range f' IN A PLAIN WALK, nothing turned.** -/
theorem wp_range_k {P : Program} {α : Type} {g : Operand} {ps : Array Tmp} {assign body : Code} {Q : Exit → Act → World → Prop} {a : Act} {w : World}
    {gf : Nat} {lb : Array Value} (hg : a.eval g = .func (.func gf) #[] lb) (eg : ∀ args w, (callFunc gf args).run P w = .ok (.enter gf args) w)
    {encs : α → Array Value} {S Sp : List α → Prop} {N : Nat}
    (hseq : SeqStopsK Fence.wide 4 P gf lb encs (KeepsE NoB NoT w.heap.size) S Sp N w) (hps : ∀ x, (encs x).size = ps.size)
    (I : List α → Prop) (Ix : Code → List α → Prop) (h0 : I []) (Ax : α → Act → World → Prop) (hAx : ∀ x a' W W', Ax x a' W → SameCells W W' → W.heap.size ≤ W'.heap.size → Ax x a' W')
    (hassign : ∀ (l : Nat) (x : α) (W : World) (K : Act → World → Prop), Below w.heap.size w W → (∀ a' W', Below W.heap.size W W' → Ax x a' W' → K a' W') →
      assign.wpIn (Fence.wide.inRound l) 3 P (Exit.then K (fun _ _ _ => False)) { tmps := (ps.zip (encs x)).foldl (fun t (p, v) => t.setIfInBounds p v) a.tmps, defers := [] } W)
    (hbody : ∀ (l : Nat) (pre : List α) (x : α) (a' : Act) (W : World), Below w.heap.size w W → I pre → Ax x a' W → pre.length < N → body.wpIn (Fence.wide.inRound l) 3 P (roundPostK I Ix (pre ++ [x]) W) a' W)
    (hdone : ∀ (D : Nat) (xs : List α) (W : World), w.heap.size ≤ D → S xs → Below w.heap.size w W → I xs → W.heap[D]? = some (.deferred (some [])) → Q .normal { a with defers := { target := .collected D, args := #[] } :: a.defers } W)
    (hstop : ∀ (D : Nat) (c : Code) (pre : List α) (W : World), w.heap.size ≤ D → Sp pre → Below w.heap.size w W → Ix c pre → W.heap[D]? = some (.deferred (some [])) → c.wp P Q { a with defers := { target := .collected D, args := #[] } :: a.defers } W) :
    (Code.rangeFunc g ps assign body).wp P Q a w := by
  refine (wpIn_wide (n := 5)).1 (wpIn_rangeFunc_ownH (F := Fence.wide) (n := 5) rfl (by decide) hg trivial eg hseq (fun h k => h.trans k) (fun W l o o' _ hl hc _ => keepE_put W l o o' hl hc) (Below.refl _ _) hps
    (fun s W => I s ∧ Below w.heap.size w W) (fun c s W => Ix c s ∧ Below w.heap.size w W) (ownFrom_below_and I) (fun c => ownFrom_below_and (Ix c)) ⟨h0, Below.refl _ _⟩
    Ax (fun x a' _ W W' row hs hgr hr => hAx x a' W W' hs (same_of_grown hgr hr) hgr.size) ?_ ?_ ?_ ?_)
  · rintro l pre x W K ⟨hi, hw⟩ hK
    refine hassign l x W K hw (fun a' W' hb hx => hK a' W' ⟨hb.size, fun k o _ hk _ => (hb.block k (Array.getElem?_eq_some_iff.1 hk).1).trans hk⟩ (.of_below hb) ⟨hi, hw.trans (hb.mono hw.size)⟩ hx)
  · rintro l pre x a' W _ _ ⟨hi, hw⟩ hx hlen
    refine wpIn_mono (hbody l pre x a' W hw hi hx hlen) ?_
    have kf : ∀ W', Below W.heap.size W W' → KeepsFrom w.heap.size W W' := fun W' hb => ⟨hb.size, fun k o _ hk _ => (hb.block k (Array.getElem?_eq_some_iff.1 hk).1).trans hk⟩
    rintro e a' W' hq
    cases e with
    | normal => exact ⟨kf W' hq.1, .of_below hq.1, hq.2, hw.trans (hq.1.mono hw.size)⟩
    | ret => exact ⟨kf W' hq.1, hq.2, hw.trans (hq.1.mono hw.size)⟩
    | exit id => exact ⟨kf W' hq.1, hq.2, hw.trans (hq.1.mono hw.size)⟩
    | goto t => exact ⟨kf W' hq.1, hq.2, hw.trans (hq.1.mono hw.size)⟩
    | panic ch => exact hq.elim
    | outgrown => exact hq.elim
  · rintro D xs W hD hS ⟨hi, hw⟩ hK
    exact hdone D xs W hD hS hw hi hK
  · rintro D c pre W hD hS ⟨hi, hw⟩ hK
    exact wpIn_wide.2 (hstop D c pre W hD hS hw hi hK)

/-- Where the variable lies in a block of its own, laid anew each round: its frame and its cells. -/
def BoxAx {α : Type} (ps : Array Tmp) (encs : α → Array Value) (cs : α → List Value) (sv : Nat) (a : Act) (x : α) (a' : Act) (W : World) : Prop :=
  ∃ bx : Nat, a' = { tmps := ((ps.zip (encs x)).foldl (fun t (p, v) => t.setIfInBounds p v) a.tmps).setIfInBounds sv (.pointer (some ⟨bx, 0, none⟩)), defers := [] } ∧ bx < W.heap.size ∧ ∀ (i : Nat) (v : Value), (cs x)[i]? = some v → W.cell? ⟨bx, i, none⟩ = some v
theorem BoxAx.same {α : Type} {ps : Array Tmp} {encs : α → Array Value} {cs : α → List Value} {sv : Nat} {a a' : Act} {x : α} {W W' : World} (h : BoxAx ps encs cs sv a x a' W) (k : SameCells W W') (hs : W.heap.size ≤ W'.heap.size) : BoxAx ps encs cs sv a x a' W' := by
  obtain ⟨bx, e, h1, h2⟩ := h
  exact ⟨bx, e, Nat.lt_of_lt_of_le h1 hs, fun i v hv => k.cell (h2 i v hv)⟩
/-- **'for x := range f', x boxed.** -/
theorem wp_range_box {P : Program} {α : Type} {g : Operand} {ps : Array Tmp} {assign body : Code} {Q : Exit → Act → World → Prop} {a : Act} {w : World}
    {gf : Nat} {lb : Array Value} (hg : a.eval g = .func (.func gf) #[] lb) (eg : ∀ args w, (callFunc gf args).run P w = .ok (.enter gf args) w)
    {encs : α → Array Value} {S Sp : List α → Prop} {N : Nat} (cs : α → List Value) (sv : Nat)
    (hseq : SeqStopsK Fence.wide 4 P gf lb encs (KeepsE NoB NoT w.heap.size) S Sp N w) (hps : ∀ x, (encs x).size = ps.size)
    (I : List α → Prop) (Ix : Code → List α → Prop) (h0 : I [])
    (hassign : ∀ (l : Nat) (x : α) (W : World) (K : Act → World → Prop), (∀ a' W', Below W.heap.size W W' → BoxAx ps encs cs sv a x a' W' → K a' W') →
      assign.wpIn (Fence.wide.inRound l) 3 P (Exit.then K (fun _ _ _ => False)) { tmps := (ps.zip (encs x)).foldl (fun t (p, v) => t.setIfInBounds p v) a.tmps, defers := [] } W)
    (hbody : ∀ (l : Nat) (pre : List α) (x : α) (bx : Nat) (W : World), Below w.heap.size w W → I pre → bx < W.heap.size → (∀ (i : Nat) (v : Value), (cs x)[i]? = some v → W.cell? ⟨bx, i, none⟩ = some v) → pre.length < N →
      body.wpIn (Fence.wide.inRound l) 3 P (roundPostK I Ix (pre ++ [x]) W) { tmps := ((ps.zip (encs x)).foldl (fun t (p, v) => t.setIfInBounds p v) a.tmps).setIfInBounds sv (.pointer (some ⟨bx, 0, none⟩)), defers := [] } W)
    (hdone : ∀ (D : Nat) (xs : List α) (W : World), w.heap.size ≤ D → S xs → Below w.heap.size w W → I xs → W.heap[D]? = some (.deferred (some [])) → Q .normal { a with defers := { target := .collected D, args := #[] } :: a.defers } W)
    (hstop : ∀ (D : Nat) (c : Code) (pre : List α) (W : World), w.heap.size ≤ D → Sp pre → Below w.heap.size w W → Ix c pre → W.heap[D]? = some (.deferred (some [])) → c.wp P Q { a with defers := { target := .collected D, args := #[] } :: a.defers } W) :
    (Code.rangeFunc g ps assign body).wp P Q a w :=
  wp_range_k hg eg hseq hps I Ix h0 (BoxAx ps encs cs sv a) (fun _ _ _ _ h k hs => h.same k hs) (fun l x W K _ hK => hassign l x W K hK)
    (fun l pre x a' W hb hi hx hlen => by
      obtain ⟨bx, rfl, h1, h2⟩ := hx
      exact hbody l pre x bx W hb hi h1 h2 hlen) hdone hstop
end Go.Proofs.YtkphihbimdffjaaDoor
