/-
  A law of my own for 'for x := range f', f a function, in a plain walk: what the body writes is told by the blocks that it may write (A); the loop's book-keeping is out of sight. And: a function's contract where such loops have left their marks.
-/
import Derived.Test.YtkphihbimdffjaaDoorBase
import Derived.RangeFuncNested
import Derived.RangeFuncBound
import Derived.RangeFuncCalls
import Derived.RangeFuncLeaves
import Derived.RangeFuncBox
import Derived.Shelf.Abstract
import Derived.OwnWalkIn
import Derived.TacticsInMore
import Derived.LoopNIn
import Derived.LoopIn
namespace Go.Proofs.YtkphihbimdffjaaDoor
open Go.RowKit Go.Shelf

/-- The blocks of which Z speaks lie as they lay. -/
structure Keep (Z : Nat → Prop) (W W' : World) : Prop where
  size : W.heap.size ≤ W'.heap.size
  block : ∀ b, Z b → W'.heap[b]? = W.heap[b]?
theorem Keep.refl (Z : Nat → Prop) (W : World) : Keep Z W W := ⟨Nat.le_refl _, fun _ _ => rfl⟩
theorem Keep.trans {Z : Nat → Prop} {A B C : World} (h : Keep Z A B) (k : Keep Z B C) : Keep Z A C := ⟨Nat.le_trans h.size k.size, fun b hb => (k.block b hb).trans (h.block b hb)⟩
theorem Keep.cell {Z : Nat → Prop} {W W' : World} (h : Keep Z W W') {p : Addr} (hz : Z p.block) : W'.cell? p = W.cell? p := World.cell?_of_block (w := W) (h.block p.block hz)
theorem Keep.frozen {Z : Nat → Prop} {W W' : World} (h : Keep Z W W') {p : Addr} (hz : Z p.block) : W'.frozen? p = W.frozen? p := World.frozen?_of_block (w := W) (h.block p.block hz)
theorem Keep.below {Z : Nat → Prop} {B : Nat} {W W' : World} (h : Below B W W') (hz : ∀ b, Z b → b < B) : Keep Z W W' := ⟨h.size, fun b hb => h.block b (hz b hb)⟩
theorem keepK_b {Z : Nat → Prop} {w : World} (hz : ∀ b, Z b → b < w.heap.size) (W : World) (l : Nat) (o o' : Obj) (hl : w.heap.size ≤ l) (_ : W.heap[l]? = some o) (_ : o.isCells = false) (_ : o.isWalk = false) : Keep Z W (W.putObj l o') :=
  ⟨by simp [World.putObj], fun b hb => World.putObj_heap_other (by have := hz b hb; omega)⟩

/-- From W to W' only the blocks of which A speaks, and new ones, have turned. -/
structure Writes (A : Nat → Prop) (W W' : World) : Prop where
  os : W'.os = W.os
  tape : W'.tape = W.tape
  output : W'.output = W.output
  size : W.heap.size ≤ W'.heap.size
  block : ∀ b, b < W.heap.size → ¬ A b → W'.heap[b]? = W.heap[b]?
theorem Writes.refl (A : Nat → Prop) (W : World) : Writes A W W := ⟨rfl, rfl, rfl, Nat.le_refl _, fun _ _ _ => rfl⟩
theorem Writes.trans {A : Nat → Prop} {X Y Z : World} (h : Writes A X Y) (k : Writes A Y Z) : Writes A X Z :=
  ⟨k.os.trans h.os, k.tape.trans h.tape, k.output.trans h.output, Nat.le_trans h.size k.size, fun b hb hn => (k.block b (Nat.lt_of_lt_of_le hb h.size) hn).trans (h.block b hb hn)⟩
theorem Writes.of_below {A : Nat → Prop} {W W' : World} (h : Below W.heap.size W W') : Writes A W W' := ⟨h.os, h.tape, h.output, h.size, fun b hb _ => h.block b hb⟩
theorem Writes.alloc {A : Nat → Prop} {X W : World} (h : Writes A X W) (o : Obj) : Writes A X (W.alloc o) := h.trans (.of_below bself)
theorem Writes.setCell {A : Nat → Prop} {X W : World} (h : Writes A X W) {p : Addr} (hp : A p.block) (u : Value) : Writes A X (W.setCell p u) :=
  h.trans ⟨rfl, rfl, rfl, by simp [World.setCell], fun b _ hn => Below.heap_setCell _ _ _ _ (fun e => hn (e ▸ hp))⟩
theorem Writes.cell {A : Nat → Prop} {W W' : World} (h : Writes A W W') (b o : Nat) (hb : b < W.heap.size) (hn : ¬ A b) : W'.cell? ⟨b, o, none⟩ = W.cell? ⟨b, o, none⟩ := World.cell?_of_block (w := W) (h.block b hb hn)
theorem Writes.frozen {A : Nat → Prop} {W W' : World} (h : Writes A W W') (b o : Nat) (hb : b < W.heap.size) (hn : ¬ A b) : W'.frozen? ⟨b, o, none⟩ = W.frozen? ⟨b, o, none⟩ := World.frozen?_of_block (w := W) (h.block b hb hn)
/-- Where all that may be written lies at or behind B, what lies below is as it was. -/
theorem Writes.below {A : Nat → Prop} {B : Nat} {X W W' : World} (h : Writes A W W') (hX : Below B X W) (hB : B ≤ W.heap.size) (hA : ∀ b, A b → B ≤ b) : Below B X W' :=
  hX.trans ⟨h.os, h.tape, h.output, h.size, fun b hb => h.block b (by omega) (fun ha => by have := hA b ha; omega)⟩
theorem Writes.mono {A A' : Nat → Prop} {W W' : World} (h : Writes A W W') (hA : ∀ b, A b → A' b) : Writes A' W W' := ⟨h.os, h.tape, h.output, h.size, fun b hb hn => h.block b hb (fun ha => hn (hA b ha))⟩

/-- How the body of a round may be left. -/
def roundPost {α : Type} (A : Nat → Prop) (I : List α → World → Prop) (Ix : Code → List α → World → Prop) (xs : List α) (W : World) : Exit → Act → World → Prop
  | .normal, _, W' => Writes A W W' ∧ I xs W'
  | .ret, _, W' => Writes A W W' ∧ Ix .ret xs W'
  | .exit id, _, W' => Writes A W W' ∧ Ix (.exit id) xs W'
  | .goto t, _, W' => Writes A W W' ∧ Ix (.goto t) xs W'
  | .panic _, _, _ => False
  | .outgrown, _, _ => False

theorem ownFrom_of_blocks {β : Type} {A : Nat → Prop} {w : World} {I : β → World → Prop} (hA : ∀ b, A b → b < w.heap.size) (hI : ∀ s W W', I s W → (∀ b, A b → W'.heap[b]? = W.heap[b]?) → I s W') :
    OwnFrom w.heap.size (fun s W => I s W ∧ Writes A w W) := by
  rintro s W W' row ⟨hi, hw⟩ hg hr
  have hk : ∀ b, b < w.heap.size → W'.heap[b]? = W.heap[b]? := fun b hb => hg.block b (Nat.lt_of_lt_of_le hb hw.size) (fun e => by have := (hr b e.symm).1; omega)
  exact ⟨hI s W W' hi (fun b hb => hk b (hA b hb)), ⟨hg.os.trans hw.os, hg.tape.trans hw.tape, hg.output.trans hw.output, Nat.le_trans hw.size hg.size, fun b hb hn => (hk b hb).trans (hw.block b hb hn)⟩⟩

/-- **'for x := range f' IN A PLAIN WALK.** -/
theorem wp_range {P : Program} {α : Type} {g : Operand} {ps : Array Tmp} {assign body : Code} {Q : Exit → Act → World → Prop} {a : Act} {w : World}
    {gf : Nat} {lb : Array Value} (hg : a.eval g = .func (.func gf) #[] lb) (eg : ∀ args w, (callFunc gf args).run P w = .ok (.enter gf args) w)
    {encs : α → Array Value} {S Sp : List α → Prop} {N : Nat} (A : Nat → Prop) (hA : ∀ b, A b → b < w.heap.size)
    (hseq : SeqStopsK Fence.wide 4 P gf lb encs (Keep fun b => b < w.heap.size ∧ ¬ A b) S Sp N w) (hps : ∀ x, (encs x).size = ps.size)
    (I : List α → World → Prop) (Ix : Code → List α → World → Prop) (hI : ∀ s W W', I s W → (∀ b, A b → W'.heap[b]? = W.heap[b]?) → I s W') (hIx : ∀ c s W W', Ix c s W → (∀ b, A b → W'.heap[b]? = W.heap[b]?) → Ix c s W')
    (h0 : I [] w) (a₁ : α → Act)
    (hassign : ∀ (l : Nat) (x : α) (W : World) (K : Act → World → Prop), K (a₁ x) W →
      assign.wpIn (Fence.wide.inRound l) 3 P (Exit.then K (fun _ _ _ => False)) { tmps := (ps.zip (encs x)).foldl (fun t (p, v) => t.setIfInBounds p v) a.tmps, defers := [] } W)
    (hbody : ∀ (l : Nat) (pre : List α) (x : α) (W : World), Writes A w W → I pre W → pre.length < N → body.wpIn (Fence.wide.inRound l) 3 P (roundPost A I Ix (pre ++ [x]) W) (a₁ x) W)
    (hdone : ∀ (D : Nat) (xs : List α) (W : World), w.heap.size ≤ D → S xs → Writes A w W → I xs W → W.heap[D]? = some (.deferred (some [])) → Q .normal { a with defers := { target := .collected D, args := #[] } :: a.defers } W)
    (hstop : ∀ (D : Nat) (c : Code) (pre : List α) (W : World), w.heap.size ≤ D → Sp pre → Writes A w W → Ix c pre W → W.heap[D]? = some (.deferred (some [])) → c.wp P Q { a with defers := { target := .collected D, args := #[] } :: a.defers } W) :
    (Code.rangeFunc g ps assign body).wp P Q a w := by
  refine (wpIn_wide (n := 5)).1 (wpIn_rangeFunc_ownG (F := Fence.wide) (n := 5) rfl (by decide) hg trivial eg hseq (fun h k => h.trans k) (keepK_b fun b h => h.1) (Below.refl _ _) hps
    (fun s W => I s W ∧ Writes A w W) (fun c s W => Ix c s W ∧ Writes A w W) (ownFrom_of_blocks hA hI) (fun c => ownFrom_of_blocks hA (hIx c)) ⟨h0, .refl _ _⟩ a₁ hassign ?_ ?_ ?_)
  · rintro l pre x W ⟨hi, hw⟩ hlen
    refine wpIn_mono (hbody l pre x W hw hi hlen) ?_
    have kf : ∀ W', Writes A W W' → KeepsFrom w.heap.size W W' := fun W' h => ⟨h.size, fun k o hB hk _ => (h.block k (Array.getElem?_eq_some_iff.1 hk).1 (fun ha => by have := hA k ha; omega)).trans hk⟩
    have kp : ∀ W', Writes A W W' → Keep (fun b => b < w.heap.size ∧ ¬ A b) W W' := fun W' h => ⟨h.size, fun b hb => h.block b (Nat.lt_of_lt_of_le hb.1 hw.size) hb.2⟩
    rintro e a' W' hq
    cases e with
    | normal => exact ⟨kf W' hq.1, kp W' hq.1, hq.2, hw.trans hq.1⟩
    | ret => exact ⟨kf W' hq.1, hq.2, hw.trans hq.1⟩
    | exit id => exact ⟨kf W' hq.1, hq.2, hw.trans hq.1⟩
    | goto t => exact ⟨kf W' hq.1, hq.2, hw.trans hq.1⟩
    | panic ch => exact hq.elim
    | outgrown => exact hq.elim
  · rintro D xs W hD hS ⟨hi, hw⟩ hK
    exact hdone D xs W hD hS hw hi hK
  · rintro D c pre W hD hS ⟨hi, hw⟩ hK
    exact wpIn_wide.2 (hstop D c pre W hD hS hw hi hK)

/-- The marks that loops over functions have left: each at a block of its own that holds nothing to do. -/
structure Marked (n₀ : Nat) (w : World) (ds : List Deferred) (Ds : List Nat) : Prop where
  eq : ds = Ds.map fun D => { target := .collected D, args := #[] }
  nodup : Ds.Nodup
  held : ∀ D, D ∈ Ds → n₀ ≤ D ∧ w.heap[D]? = some (.deferred (some []))
theorem Marked.nil (n₀ : Nat) (w : World) : Marked n₀ w [] [] := ⟨rfl, List.nodup_nil, fun _ h => by cases h⟩
/-- What a function's body must achieve where it holds such loops: all marks are known; and behind their taking up, by which no cells turn and nothing below n₀, the result is there. -/
def markPost (P : Program) (fn : Func) (n₀ : Nat) (R : Ending → World → Prop) : Exit → Act → World → Prop
  | .normal, a, w | .ret, a, w => (∃ Ds, Marked n₀ w a.defers Ds) ∧ ∀ w', Below n₀ w w' → (∀ (b : Nat) (o : Obj), w.heap[b]? = some o → o.isCells = true → w'.heap[b]? = some o) → ∃ v, (results fn a.tmps).run P w' = .ok v w' ∧ R (.returned v) w'
  | _, _, _ => False

theorem leaves_marked {P : Program} {fn : Func} {n₀ : Nat} {tmps : Array Value} {R : Ending → World → Prop} : ∀ (Ds : List Nat) (ds : List Deferred) (w w0 : World), Marked n₀ w ds Ds → Below n₀ w0 w → (∀ (b : Nat) (o : Obj), w0.heap[b]? = some o → o.isCells = true → w.heap[b]? = some o) →
    (∀ w', Below n₀ w0 w' → (∀ (b : Nat) (o : Obj), w0.heap[b]? = some o → o.isCells = true → w'.heap[b]? = some o) → ∃ v, (results fn tmps).run P w' = .ok v w' ∧ R (.returned v) w') → LeavesInM Fence.wide 5 P fn tmps R ds .returning w
  | [], ds, w, w0, hm, hb, hc, h => by
    obtain ⟨rfl, _, _⟩ := hm
    exact h w hb hc
  | D :: Ds, ds, w, w0, hm, hb, hc, h => by
    obtain ⟨rfl, hn, hh⟩ := hm
    obtain ⟨hD, hD2⟩ := hh D (by simp)
    have hlt : D < w.heap.size := (Array.getElem?_eq_some_iff.1 hD2).1
    have hb1 : Below n₀ w0 (w.putObj D (.deferred none)) := hb.grown (grownBy_putObj' w D _) (by omega) (fun k e => by cases e; exact hD)
    refine ⟨by simp, .inl ⟨D, _, rfl, run_takeDeferred hD2, leaves_marked Ds _ _ w0 ⟨rfl, (List.nodup_cons.1 hn).2, fun D' h' => ?_⟩ hb1 ?_ h⟩⟩
    · have hne : D' ≠ D := fun e => (List.nodup_cons.1 hn).1 (e ▸ h')
      exact ⟨(hh D' (by simp [h'])).1, (World.putObj_heap_other hne).trans (hh D' (by simp [h'])).2⟩
    · intro b o ho hco
      have hbo := hc b o ho hco
      have hne : b ≠ D := by
        rintro rfl
        rw [hD2] at hbo
        cases hbo
        cases hco
      exact (World.putObj_heap_other hne).trans hbo

/-- **A FUNCTION's CONTRACT, WHERE ITS BODY HOLDS SUCH LOOPS.** -/
theorem calls_marked {P : Program} {f : FuncId} {fn : Func} {c : Code} {args : Array Value} {w : World} {R : Ending → World → Prop} (n₀ : Nat)
    (hf : P.funcs[f]? = some fn) (hb : fn.body = some c)
    (h : c.wp P (markPost P fn n₀ R) { tmps := args ++ Array.replicate (fn.ntmps - args.size) undef, defers := [] } w) : Calls P f args w R := by
  refine (callsIn_wide (n := 5)).1 (callsIn_of_wp_marks hf hb trivial (wpIn_mono ((wpIn_wide (n := 5)).2 h) ?_) rfl)
  rintro e a w hq
  cases e with
  | normal => obtain ⟨⟨Ds, hm⟩, hr⟩ := hq; exact leaves_marked Ds _ w w hm (Below.refl _ _) (fun _ _ h _ => h) hr
  | ret => obtain ⟨⟨Ds, hm⟩, hr⟩ := hq; exact leaves_marked Ds _ w w hm (Below.refl _ _) (fun _ _ h _ => h) hr
  | exit id => exact hq.elim
  | goto t => exact hq.elim
  | panic ch => exact hq.elim
  | outgrown => exact hq.elim
theorem cells_kept {w w' : World} (h : ∀ (b : Nat) (o : Obj), w.heap[b]? = some o → o.isCells = true → w'.heap[b]? = some o) {b o : Nat} {v : Value} (hc : w.cell? ⟨b, o, none⟩ = some v) : w'.cell? ⟨b, o, none⟩ = some v := by
  have hs : ∃ ob, w.heap[b]? = some ob ∧ ob.isCells = true := by
    unfold World.cell? at hc
    simp only at hc
    split at hc
    · rename_i c t r heq
      exact ⟨_, heq, rfl⟩
    · cases hc
  obtain ⟨ob, h1, h2⟩ := hs
  exact (World.cell?_of_block (w := w) (a := ⟨b, o, none⟩) ((h b ob h1 h2).trans h1.symm)).trans hc
end Go.Proofs.YtkphihbimdffjaaDoor
