/-
  The law of 'for x := range f' once more, wider: the body may write, beside the blocks of A, whatever rows of the element types of E were laid since the loop began (slices that it lets grow); the iterator may hold memory of its own, of other types.
-/
import Derived.Test.YtkphihbimdffjaaDoorRange
namespace Go.Proofs.YtkphihbimdffjaaDoor
open Go.RowKit Go.Shelf

/-- A row of an element type of which E speaks. -/
def ofE (E : TypeId → Prop) (o : Obj) : Prop := ∃ c e r, o = .cells c e r ∧ E e
theorem ofE.cells {E : TypeId → Prop} {o : Obj} (h : ofE E o) : o.isCells = true := by obtain ⟨c, e, r, rfl, _⟩ := h; rfl

/-- What is cells, but for the blocks of A and for rows of E from n on, is as it was. -/
structure KeepsE (A : Nat → Prop) (E : TypeId → Prop) (n : Nat) (W W' : World) : Prop where
  size : W.heap.size ≤ W'.heap.size
  same : ∀ (b : Nat) (o : Obj), W.heap[b]? = some o → o.isCells = true → ¬ A b → ¬ (n ≤ b ∧ ofE E o) → W'.heap[b]? = some o
theorem KeepsE.refl (A : Nat → Prop) (E : TypeId → Prop) (n : Nat) (W : World) : KeepsE A E n W W := ⟨Nat.le_refl _, fun _ _ h _ _ _ => h⟩
theorem KeepsE.trans {A : Nat → Prop} {E : TypeId → Prop} {n : Nat} {X Y Z : World} (h : KeepsE A E n X Y) (k : KeepsE A E n Y Z) : KeepsE A E n X Z :=
  ⟨Nat.le_trans h.size k.size, fun b o ho hc ha he => k.same b o (h.same b o ho hc ha he) hc ha he⟩
theorem KeepsE.of_below {A : Nat → Prop} {E : TypeId → Prop} {n : Nat} {W W' : World} (h : Below W.heap.size W W') : KeepsE A E n W W' :=
  ⟨h.size, fun b _ ho _ _ _ => (h.block b (Array.getElem?_eq_some_iff.1 ho).1).trans ho⟩

theorem isCells_of_cell {W : World} {b o : Nat} {v : Value} (h : W.cell? ⟨b, o, none⟩ = some v) : ∃ c e r, W.heap[b]? = some (.cells c e r) := by
  unfold World.cell? at h
  simp only at h
  split at h
  · rename_i c e r heq
    exact ⟨c, e, r, heq⟩
  · cases h
theorem KeepsE.old {A : Nat → Prop} {E : TypeId → Prop} {n : Nat} {W W' : World} (h : KeepsE A E n W W') {b o : Nat} {v : Value} (hb : b < n) (ha : ¬ A b) (hc : W.cell? ⟨b, o, none⟩ = some v) : W'.cell? ⟨b, o, none⟩ = some v := by
  obtain ⟨c, e, r, hh⟩ := isCells_of_cell hc
  exact (World.cell?_of_block (w := W) (a := ⟨b, o, none⟩) ((h.same b _ hh rfl ha (fun k => by omega)).trans hh.symm)).trans hc
/-- The row at block b is of element type e. -/
def rowOf (W : World) (b : Nat) (e : TypeId) : Prop := ∃ c r, W.heap[b]? = some (.cells c e r)
theorem KeepsE.own {A : Nat → Prop} {E : TypeId → Prop} {n : Nat} {W W' : World} (h : KeepsE A E n W W') {b : Nat} {e : TypeId} (hr : rowOf W b e) (ha : ¬ A b) (he : ¬ E e) : W'.heap[b]? = W.heap[b]? := by
  obtain ⟨c, r, hh⟩ := hr
  refine (h.same b _ hh rfl ha ?_).trans hh.symm
  rintro ⟨_, c', e', r', h1, h2⟩
  cases h1
  exact he h2
theorem rowOf.keep {W W' : World} {b : Nat} {e : TypeId} (hr : rowOf W b e) (h : W'.heap[b]? = W.heap[b]?) : rowOf W' b e := by
  obtain ⟨c, r, hh⟩ := hr
  exact ⟨c, r, h.trans hh⟩
theorem rowOf.new (W : World) (c : Array Value) (e : TypeId) (r : Nat × Nat) : rowOf (W.alloc (.cells c e r)) W.heap.size e := ⟨c, r, World.alloc_heap_new W _⟩
theorem rowOf.lt {W : World} {b : Nat} {e : TypeId} (hr : rowOf W b e) : b < W.heap.size := by
  obtain ⟨c, r, hh⟩ := hr
  exact (Array.getElem?_eq_some_iff.1 hh).1
theorem rowOf.alloc {W : World} {b : Nat} {e : TypeId} (hr : rowOf W b e) (o : Obj) : rowOf (W.alloc o) b e := hr.keep ((bself (w := W) (o := o)).block b hr.lt)
theorem rowOf.set {W : World} {b : Nat} {e : TypeId} (hr : rowOf W b e) (p : Addr) (v : Value) : rowOf (W.setCell p v) b e := by
  by_cases h : b = p.block
  · obtain ⟨c, r, hh⟩ := hr
    subst h
    obtain ⟨hlt, hh⟩ := Array.getElem?_eq_some_iff.1 hh
    refine ⟨if p.spot.isSome = true then c else c.setIfInBounds p.off v, r, ?_⟩
    simp only [World.setCell]
    rw [Array.getElem?_eq_getElem (by simpa using hlt), Array.getElem_modify, if_pos rfl, hh]
  · exact hr.keep (Below.heap_setCell _ _ _ _ h)

/-- From W to W' only the blocks of A, rows of E from n on, and new ones, have turned. -/
structure WritesE (A : Nat → Prop) (E : TypeId → Prop) (n : Nat) (W W' : World) : Prop where
  os : W'.os = W.os
  tape : W'.tape = W.tape
  output : W'.output = W.output
  size : W.heap.size ≤ W'.heap.size
  same : ∀ (b : Nat) (o : Obj), W.heap[b]? = some o → ¬ A b → ¬ (n ≤ b ∧ ofE E o) → W'.heap[b]? = some o
theorem WritesE.refl (A : Nat → Prop) (E : TypeId → Prop) (n : Nat) (W : World) : WritesE A E n W W := ⟨rfl, rfl, rfl, Nat.le_refl _, fun _ _ h _ _ => h⟩
theorem WritesE.trans {A : Nat → Prop} {E : TypeId → Prop} {n : Nat} {X Y Z : World} (h : WritesE A E n X Y) (k : WritesE A E n Y Z) : WritesE A E n X Z :=
  ⟨k.os.trans h.os, k.tape.trans h.tape, k.output.trans h.output, Nat.le_trans h.size k.size, fun b o ho ha he => k.same b o (h.same b o ho ha he) ha he⟩
theorem WritesE.of_below {A : Nat → Prop} {E : TypeId → Prop} {n : Nat} {W W' : World} (h : Below W.heap.size W W') : WritesE A E n W W' :=
  ⟨h.os, h.tape, h.output, h.size, fun b _ ho _ _ => (h.block b (Array.getElem?_eq_some_iff.1 ho).1).trans ho⟩
theorem WritesE.alloc {A : Nat → Prop} {E : TypeId → Prop} {n : Nat} {X W : World} (h : WritesE A E n X W) (o : Obj) : WritesE A E n X (W.alloc o) := h.trans (.of_below bself)
theorem WritesE.setCell {A : Nat → Prop} {E : TypeId → Prop} {n : Nat} {X W : World} (h : WritesE A E n X W) {p : Addr} (hp : A p.block) (u : Value) : WritesE A E n X (W.setCell p u) :=
  h.trans ⟨rfl, rfl, rfl, by simp [World.setCell], fun b _ ho ha _ => (Below.heap_setCell _ _ _ _ (fun e => ha (by rw [e]; exact hp))).trans ho⟩
/-- What grew by an append onto a row of its own. -/
theorem WritesE.grown {A : Nat → Prop} {E : TypeId → Prop} {n : Nat} {X W W' : World} {row : Option Nat} (h : WritesE A E n X W) (hg : W.grownBy W' row) (hr : ∀ g, row = some g → n ≤ g ∧ ∃ o, W.heap[g]? = some o ∧ ofE E o) : WritesE A E n X W' := by
  refine h.trans ⟨hg.os, hg.tape, hg.output, hg.size, fun b o ho ha he => (hg.block b (Array.getElem?_eq_some_iff.1 ho).1 ?_).trans ho⟩
  intro e
  obtain ⟨h1, o', h2, h3⟩ := hr b e.symm
  rw [h2] at ho
  cases ho
  exact he ⟨h1, h3⟩
theorem WritesE.keeps {A : Nat → Prop} {E : TypeId → Prop} {n : Nat} {W W' : World} (h : WritesE A E n W W') : KeepsE A E n W W' := ⟨h.size, fun b o ho _ ha he => h.same b o ho ha he⟩
theorem WritesE.cell {A : Nat → Prop} {E : TypeId → Prop} {n : Nat} {W W' : World} (h : WritesE A E n W W') {b o : Nat} {v : Value} (hb : b < n) (ha : ¬ A b) (hc : W.cell? ⟨b, o, none⟩ = some v) : W'.cell? ⟨b, o, none⟩ = some v := h.keeps.old hb ha hc
/-- Where all that may be written lies at or behind B, what lies below is as it was. -/
theorem WritesE.below {A : Nat → Prop} {E : TypeId → Prop} {n B : Nat} {X W W' : World} (h : WritesE A E n W W') (hX : Below B X W) (hB : B ≤ W.heap.size) (hn : B ≤ n) (hA : ∀ b, A b → B ≤ b) : Below B X W' := by
  refine hX.trans ⟨h.os, h.tape, h.output, h.size, fun b hb => ?_⟩
  have hl : b < W.heap.size := by omega
  rw [Array.getElem?_eq_getElem hl]
  exact h.same b _ (Array.getElem?_eq_getElem hl) (fun ha => by have := hA b ha; omega) (fun k => by omega)

/-- How the body of a round may be left. -/
def roundPostE {α : Type} (A : Nat → Prop) (E : TypeId → Prop) (n : Nat) (I : List α → World → Prop) (Ix : Code → List α → World → Prop) (xs : List α) (W : World) : Exit → Act → World → Prop
  | .normal, _, W' => WritesE A E n W W' ∧ I xs W'
  | .ret, _, W' => WritesE A E n W W' ∧ Ix .ret xs W'
  | .exit id, _, W' => WritesE A E n W W' ∧ Ix (.exit id) xs W'
  | .goto t, _, W' => WritesE A E n W W' ∧ Ix (.goto t) xs W'
  | .panic _, _, _ => False
  | .outgrown, _, _ => False

/-- No row of cells has turned. -/
def SameCells (W W' : World) : Prop := ∀ (b : Nat) (o : Obj), W.heap[b]? = some o → o.isCells = true → W'.heap[b]? = some o
theorem SameCells.cell {W W' : World} (h : SameCells W W') {b o : Nat} {v : Value} (hc : W.cell? ⟨b, o, none⟩ = some v) : W'.cell? ⟨b, o, none⟩ = some v := cells_kept h hc
theorem SameCells.frozen {W W' : World} (h : SameCells W W') {b o x : Nat} {v : Value} (hc : W.cell? ⟨b, o, none⟩ = some v) : W'.frozen? ⟨b, x, none⟩ = W.frozen? ⟨b, x, none⟩ := by
  obtain ⟨c, e, r, hh⟩ := isCells_of_cell hc
  exact World.frozen?_of_block (w := W) (a := ⟨b, x, none⟩) ((h b _ hh rfl).trans hh.symm)

theorem ownFrom_of_cells {β : Type} {A : Nat → Prop} {E : TypeId → Prop} {w : World} {I : β → World → Prop} (hI : ∀ s W W', I s W → SameCells W W' → W.heap.size ≤ W'.heap.size → I s W') :
    OwnFrom w.heap.size (fun s W => I s W ∧ WritesE A E w.heap.size w W) := by
  rintro s W W' row ⟨hi, hw⟩ hg hr
  refine ⟨hI s W W' hi (fun b o ho hc => ?_) hg.size, ⟨hg.os.trans hw.os, hg.tape.trans hw.tape, hg.output.trans hw.output, Nat.le_trans hw.size hg.size, fun b o ho ha he => ?_⟩⟩
  · refine (hg.block b (Array.getElem?_eq_some_iff.1 ho).1 (fun e => ?_)).trans ho
    obtain ⟨_, o', h2, h3⟩ := hr b e.symm
    rw [h2] at ho
    cases ho
    rw [hc] at h3
    cases h3
  · have hlt : b < W.heap.size := Nat.lt_of_lt_of_le (Array.getElem?_eq_some_iff.1 ho).1 hw.size
    exact (hg.block b hlt (fun e => by have := (hr b e.symm).1; have := (Array.getElem?_eq_some_iff.1 ho).1; omega)).trans (hw.same b o ho ha he)

theorem keepE_put {A : Nat → Prop} {E : TypeId → Prop} {n : Nat} (W : World) (l : Nat) (o o' : Obj) (hl : W.heap[l]? = some o) (hc : o.isCells = false) : KeepsE A E n W (W.putObj l o') := by
  refine ⟨by simp [World.putObj], fun b ob ho hob _ _ => ?_⟩
  refine (World.putObj_heap_other (fun e => ?_)).trans ho
  subst e
  rw [hl] at ho
  cases ho
  rw [hob] at hc
  cases hc

/-- **'for x := range f' IN A PLAIN WALK, the wider law.** -/
theorem wp_range_e {P : Program} {α : Type} {g : Operand} {ps : Array Tmp} {assign body : Code} {Q : Exit → Act → World → Prop} {a : Act} {w : World}
    {gf : Nat} {lb : Array Value} (hg : a.eval g = .func (.func gf) #[] lb) (eg : ∀ args w, (callFunc gf args).run P w = .ok (.enter gf args) w)
    {encs : α → Array Value} {S Sp : List α → Prop} {N : Nat} (A : Nat → Prop) (E : TypeId → Prop) (hA : ∀ b, A b → b < w.heap.size)
    (hseq : SeqStopsK Fence.wide 4 P gf lb encs (KeepsE A E w.heap.size) S Sp N w) (hps : ∀ x, (encs x).size = ps.size)
    (I : List α → World → Prop) (Ix : Code → List α → World → Prop) (hI : ∀ s W W', I s W → SameCells W W' → W.heap.size ≤ W'.heap.size → I s W') (hIx : ∀ c s W W', Ix c s W → SameCells W W' → W.heap.size ≤ W'.heap.size → Ix c s W')
    (h0 : I [] w) (a₁ : α → Act)
    (hassign : ∀ (l : Nat) (x : α) (W : World) (K : Act → World → Prop), K (a₁ x) W →
      assign.wpIn (Fence.wide.inRound l) 3 P (Exit.then K (fun _ _ _ => False)) { tmps := (ps.zip (encs x)).foldl (fun t (p, v) => t.setIfInBounds p v) a.tmps, defers := [] } W)
    (hbody : ∀ (l : Nat) (pre : List α) (x : α) (W : World), WritesE A E w.heap.size w W → I pre W → pre.length < N → body.wpIn (Fence.wide.inRound l) 3 P (roundPostE A E w.heap.size I Ix (pre ++ [x]) W) (a₁ x) W)
    (hdone : ∀ (D : Nat) (xs : List α) (W : World), w.heap.size ≤ D → S xs → WritesE A E w.heap.size w W → I xs W → W.heap[D]? = some (.deferred (some [])) → Q .normal { a with defers := { target := .collected D, args := #[] } :: a.defers } W)
    (hstop : ∀ (D : Nat) (c : Code) (pre : List α) (W : World), w.heap.size ≤ D → Sp pre → WritesE A E w.heap.size w W → Ix c pre W → W.heap[D]? = some (.deferred (some [])) → c.wp P Q { a with defers := { target := .collected D, args := #[] } :: a.defers } W) :
    (Code.rangeFunc g ps assign body).wp P Q a w := by
  refine (wpIn_wide (n := 5)).1 (wpIn_rangeFunc_ownG (F := Fence.wide) (n := 5) rfl (by decide) hg trivial eg hseq (fun h k => h.trans k) (fun W l o o' _ hl hc _ => keepE_put W l o o' hl hc) (Below.refl _ _) hps
    (fun s W => I s W ∧ WritesE A E w.heap.size w W) (fun c s W => Ix c s W ∧ WritesE A E w.heap.size w W) (ownFrom_of_cells hI) (fun c => ownFrom_of_cells (hIx c)) ⟨h0, .refl _ _ _ _⟩ a₁ hassign ?_ ?_ ?_)
  · rintro l pre x W ⟨hi, hw⟩ hlen
    refine wpIn_mono (hbody l pre x W hw hi hlen) ?_
    have kf : ∀ W', WritesE A E w.heap.size W W' → KeepsFrom w.heap.size W W' := fun W' h => ⟨h.size, fun k o hB hk hc => ?_⟩
    · rintro e a' W' hq
      cases e with
      | normal => exact ⟨kf W' hq.1, hq.1.keeps, hq.2, hw.trans hq.1⟩
      | ret => exact ⟨kf W' hq.1, hq.2, hw.trans hq.1⟩
      | exit id => exact ⟨kf W' hq.1, hq.2, hw.trans hq.1⟩
      | goto t => exact ⟨kf W' hq.1, hq.2, hw.trans hq.1⟩
      | panic ch => exact hq.elim
      | outgrown => exact hq.elim
    · refine h.same k o hk (fun ha => by have := hA k ha; omega) (fun he => ?_)
      rw [he.2.cells] at hc
      cases hc
  · rintro D xs W hD hS ⟨hi, hw⟩ hK
    exact hdone D xs W hD hS hw hi hK
  · rintro D c pre W hD hS ⟨hi, hw⟩ hK
    exact wpIn_wide.2 (hstop D c pre W hD hS hw hi hK)
end Go.Proofs.YtkphihbimdffjaaDoor
