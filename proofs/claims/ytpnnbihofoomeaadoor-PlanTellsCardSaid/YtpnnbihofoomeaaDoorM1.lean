/-
  Laws of my own over whatever program: regions that draw their order, whose operations read what lay before and whose callees leave that alone; a scope with a forward jump; small facts on 'Below'.
-/
import Derived.Test.YtpnnbihofoomeaaDoorRows
import Derived.WalkKit
import Derived.WalkSpells
import Derived.WalkLawsBesides
import Derived.BigQuiet
import Derived.BigGuardPart
import Derived.Lib.Hide
import Derived.RegionTactic
import Derived.RangeFuncNested
import Derived.RangeFuncBound
import Derived.RangeFuncCalls
import Derived.RangeFuncLeaves
import Derived.RangeFuncBox
import Derived.Shelf.Abstract
import Derived.OwnWalkIn
import Derived.TacticsInMore
import Derived.LoopNIn
import Derived.LoopIn
import Derived.Deep.DeepCutAuto
import Derived.Deep.RegionHeld

namespace Go.Proofs.YtpnnbihofoomeaaDoor
open Go.RowKit

/-- The worlds that are as W below block B. -/
def Ext (B : Nat) (W : World) : Type := { w' : World // Below B W w' }
instance Ext.some {B : Nat} {W : World} : Nonempty (Ext B W) := ⟨⟨W, Below.refl _ _⟩⟩
def Ext.w {B : Nat} {W : World} (x : Ext B W) : World := x.1
theorem Ext.below {B : Nat} {W : World} (x : Ext B W) : Below B W x.w := x.2
theorem Ext.cell {B : Nat} {W : World} (x : Ext B W) (b o : Nat) (h : b < B) : x.w.cell? ⟨b, o, none⟩ = W.cell? ⟨b, o, none⟩ := x.below.cell (p := ⟨b, o, none⟩) h
/-- A region that draws its order, whose operations read what lay before it and whose callees leave that alone: one walk, in the order of the text. -/
theorem wp_region_ext {P : Program} {id : Nat} {Q : Exit → Act → World → Prop} {a : Act} {w : World} {l : List Oper} (hm : P.follows .mixedOrders = true) (hB : Region.lexB .any l.toArray = true)
    (h : (∀ (x : Ext w.heap.size w) (b o : Nat), b < w.heap.size → x.w.cell? ⟨b, o, none⟩ = w.cell? ⟨b, o, none⟩) →
      wpQuiet P l.toArray (fun w' => ∃ x : Ext w.heap.size w, w' = x.w) (fun a' => ∀ w', Below w.heap.size w w' → Q .normal a' w') l a) : (Code.region id l.toArray true).wp P Q a w := by
  replace h := h fun x => x.cell
  refine wp_region_quiet (C := fun w' => ∃ x : Ext w.heap.size w, w' = x.w) hm hB ⟨⟨_, (Below.refl _ w).drew⟩, rfl⟩ ?_
  have e : (fun a' => ∀ w', Below w.heap.size w w' → Q .normal a' w') = (fun a' => ∀ w', (∃ x : Ext w.heap.size w, w' = x.w) → Q .normal a' w') := by
    funext a'
    apply propext
    constructor
    · rintro h w' ⟨x, rfl⟩; exact h _ x.below
    · intro h w' hw; exact h w' ⟨⟨w', hw⟩, rfl⟩
  rw [e] at h
  simpa using h
theorem Calls.ext {P : Program} {f : FuncId} {args : Array Value} {W : World} {x : Ext W.heap.size W} {v : Value}
    (h : Calls P f args x.w fun e w' => e = .returned v ∧ Below x.w.heap.size x.w w') : Calls P f args x.w fun e w'' => e = .returned v ∧ ∃ y : Ext W.heap.size W, w'' = y.w :=
  h.mono fun _ _ ⟨he, hb⟩ => ⟨he, ⟨_, x.below.trans (hb.mono x.below.size)⟩, rfl⟩
theorem Calls.ext_same {P : Program} {f : FuncId} {args : Array Value} {B : Nat} {W : World} {x : Ext B W} {v : Value}
    (h : Calls P f args x.w fun e w' => e = .returned v ∧ x.w = w') : Calls P f args x.w fun e w'' => e = .returned v ∧ ∃ y : Ext B W, w'' = y.w :=
  h.mono fun _ _ ⟨he, hb⟩ => ⟨he, x, hb.symm⟩
/-- What lay below reads as it did, is there still, and is not frozen anew. -/
theorem bcell {W w1 : World} (hb : Below W.heap.size W w1) : (∀ b o, b < W.heap.size → w1.cell? ⟨b, o, none⟩ = W.cell? ⟨b, o, none⟩) ∧ (∀ b o, b < W.heap.size → w1.frozen? ⟨b, o, none⟩ = W.frozen? ⟨b, o, none⟩) ∧ (∀ k, k < W.heap.size → k < w1.heap.size) :=
  ⟨fun b o h => hb.cell (p := ⟨b, o, none⟩) h, fun b o h => hb.frozen (p := ⟨b, o, none⟩) h, fun _ h => Nat.lt_of_lt_of_le h hb.size⟩
/-- What lies behind a new block is beyond what lay before. -/
theorem bnew {w w' : World} {o : Obj} (hb : Below (w.alloc o).heap.size (w.alloc o) w') : Below w.heap.size w w' :=
  ((Below.refl _ _).alloc (Nat.le_refl _) _).trans (hb.mono (by simp))
theorem bself {w : World} {o : Obj} : Below w.heap.size w (w.alloc o) := (Below.refl _ _).alloc (Nat.le_refl _) _
theorem bchain {a b c : World} (h : Below a.heap.size a b) (k : Below b.heap.size b c) : Below a.heap.size a c := h.trans (k.mono h.size)
theorem ret_bool {a b : Bool} (h : a = b) : Ending.returned (.bool a) = .returned (.bool b) := by rw [h]
theorem ret_int {k : IntKind} {a b : Int} (h : a = b) : Ending.returned (.int k a) = .returned (.int k b) := by rw [h]
/-- As Q; by a goto to label l: what stands behind the label, from which no goto leads on. -/
def Exit.fwd (P : Program) (l : Nat) (rest : Code) (Q : Exit → Act → World → Prop) : Exit → Act → World → Prop
  | .goto l', a, w => l' = l ∧ rest.wp P (Exit.noGoto Q) a w
  | e, a, w => Q e a w
theorem Exit.fwd_ret {P : Program} {l : Nat} {rest : Code} {Q : Exit → Act → World → Prop} {a : Act} {w : World} : Exit.fwd P l rest Q .ret a w = Q .ret a w := rfl
theorem Exit.fwd_normal {P : Program} {l : Nat} {rest : Code} {Q : Exit → Act → World → Prop} {a : Act} {w : World} : Exit.fwd P l rest Q .normal a w = Q .normal a w := rfl
/-- A scope in which the run jumps forward to one label, once at most. -/
theorem wp_scope_fwd {P : Program} {a : Act} {w : World} {Q : Exit → Act → World → Prop} {c rest : Code} (l : Nat) (hf : findLabel c l = some rest) (first : c.wp P (Exit.fwd P l rest Q) a w) : (Code.scope c).wp P Q a w := by
  intro b k cs
  have hg : gotoIn l (.inScope c :: k) = some (.code rest :: .inScope c :: k) := by simp [gotoIn, hf]
  obtain ⟨e, a₁, w₁, hq, harr⟩ := first b (.inScope c :: k) cs
  cases e with
  | normal => exact ⟨.normal, a₁, w₁, hq, .head step_scope (Steps.trans harr (.one step_inScope))⟩
  | exit id => exact ⟨.exit id, a₁, w₁, hq, fun k' hk => .head step_scope (harr k' (by simp [exitTo, hk]))⟩
  | goto l' =>
    obtain ⟨rfl, hr⟩ := hq
    obtain ⟨e₂, a₂, w₂, hq₂, harr₂⟩ := hr b (.inScope c :: k) cs
    have hs := harr _ hg
    cases e₂ with
    | normal => exact ⟨.normal, a₂, w₂, hq₂, .head step_scope (Steps.trans hs (Steps.trans harr₂ (.one step_inScope)))⟩
    | exit id => exact ⟨.exit id, a₂, w₂, hq₂, fun k' hk => .head step_scope (Steps.trans hs (harr₂ k' (by simp [exitTo, hk])))⟩
    | goto l => exact hq₂.elim
    | ret => exact ⟨_, a₂, w₂, hq₂, .of_steps (.head step_scope hs) harr₂⟩
    | panic ch => exact ⟨_, a₂, w₂, hq₂, .of_steps (.head step_scope hs) harr₂⟩
    | outgrown => exact ⟨_, a₂, w₂, hq₂, .of_steps (.head step_scope hs) harr₂⟩
  | ret => exact ⟨_, a₁, w₁, hq, .of_steps (.one step_scope) harr⟩
  | panic ch => exact ⟨_, a₁, w₁, hq, .of_steps (.one step_scope) harr⟩
  | outgrown => exact ⟨_, a₁, w₁, hq, .of_steps (.one step_scope) harr⟩
/-! That a block of one's own is there: at once, not step by step (the walk's simp asks no deeper than twice). -/
theorem lt_up2 (n : Nat) : (n < n + 1 + 1) = True := eq_true (by omega)
theorem lt_up3 (n : Nat) : (n < n + 1 + 1 + 1) = True := eq_true (by omega)
theorem lt_up4 (n : Nat) : (n < n + 1 + 1 + 1 + 1) = True := eq_true (by omega)
theorem lt_up5 (n : Nat) : (n < n + 1 + 1 + 1 + 1 + 1) = True := eq_true (by omega)
theorem lt_up6 (n : Nat) : (n < n + 1 + 1 + 1 + 1 + 1 + 1) = True := eq_true (by omega)
theorem lt_up7 (n : Nat) : (n < n + 1 + 1 + 1 + 1 + 1 + 1 + 1) = True := eq_true (by omega)
theorem lt_up8 (n : Nat) : (n < n + 1 + 1 + 1 + 1 + 1 + 1 + 1 + 1) = True := eq_true (by omega)
theorem lt_up9 (n : Nat) : (n < n + 1 + 1 + 1 + 1 + 1 + 1 + 1 + 1 + 1) = True := eq_true (by omega)
theorem lt_up10 (n : Nat) : (n < n + 1 + 1 + 1 + 1 + 1 + 1 + 1 + 1 + 1 + 1) = True := eq_true (by omega)
theorem lt_up11 (n : Nat) : (n < n + 1 + 1 + 1 + 1 + 1 + 1 + 1 + 1 + 1 + 1 + 1) = True := eq_true (by omega)
theorem lt_up12 (n : Nat) : (n < n + 1 + 1 + 1 + 1 + 1 + 1 + 1 + 1 + 1 + 1 + 1 + 1) = True := eq_true (by omega)
theorem lt_up13 (n : Nat) : (n < n + 1 + 1 + 1 + 1 + 1 + 1 + 1 + 1 + 1 + 1 + 1 + 1 + 1) = True := eq_true (by omega)
attribute [go_sem] lt_up2 lt_up3 lt_up4 lt_up5 lt_up6 lt_up7 lt_up8 lt_up9 lt_up10 lt_up11 lt_up12 lt_up13

end Go.Proofs.YtpnnbihofoomeaaDoor

/-
  Package port: what its variables hold; contracts of of, Ports, Ways, Ends, May, Turned, from.
-/
namespace Go.Proofs.YtpnnbihofoomeaaDoor
open Go.RowKit

/-- What port.none and port.kinds hold, cell by cell. -/
def noneL : List Value := [.int .i64 (-1), .int .i64 0]
def kindL : List Value := [.int .i64 0, .int .i64 0, .int .i64 0, .int .i64 0, .int .i64 0, .int .i64 0, .bool false,
  .int .i64 2, .int .i64 0, .int .i64 1, .int .i64 0, .int .i64 0, .int .i64 1, .bool false,
  .int .i64 3, .int .i64 0, .int .i64 1, .int .i64 0, .int .i64 2, .int .i64 2, .bool true,
  .int .i64 4, .int .i64 0, .int .i64 1, .int .i64 2, .int .i64 3, .int .i64 2, .bool false]
structure Kinds (W : World) : Prop where
  pnone : ∀ (o : Nat) (v : Value), noneL[o]? = some v → W.cell? ⟨0, o, none⟩ = some v
  pkind : ∀ (o : Nat) (v : Value), kindL[o]? = some v → W.cell? ⟨1, o, none⟩ = some v
theorem Kinds.lt0 {W : World} (K : Kinds W) : 0 < W.heap.size := World.block_lt_of_cell? _ _ (K.pnone 0 _ rfl)
theorem Kinds.lt1 {W : World} (K : Kinds W) : 1 < W.heap.size := World.block_lt_of_cell? _ _ (K.pkind 0 _ rfl)
theorem Kinds.below {W W' : World} (K : Kinds W) (h : Below W.heap.size W W') : Kinds W' :=
  ⟨fun o v e => (h.cell (p := ⟨0, o, none⟩) K.lt0).trans (K.pnone o v e), fun o v e => (h.cell (p := ⟨1, o, none⟩) K.lt1).trans (K.pkind o v e)⟩

/-- A kind's row. -/
def kPorts (k : Int) : Int := if k = 1 then 2 else if k = 2 then 3 else if k = 3 then 4 else 0
def kMany (k : Int) : Int := if k = 1 then 1 else if k = 2 then 2 else if k = 3 then 2 else 0
def kB0 (k : Int) : Int := if k = 1 then 1 else if k = 2 then 1 else if k = 3 then 1 else 0
def kA1 (k : Int) : Int := if k = 3 then 2 else 0
def kB1 (k : Int) : Int := if k = 2 then 2 else if k = 3 then 3 else 0
def kPoint (k : Int) : Bool := decide (k = 2)
def rowV (k : Int) : Value := .agg #[.int .i64 (kPorts k), .int .i64 0, .int .i64 (kB0 k), .int .i64 (kA1 k), .int .i64 (kB1 k), .int .i64 (kMany k), .bool (kPoint k)]
/-- The four kinds of rows there are. -/
theorem kCases (k : Int) : (k = 1 ∧ kPorts k = 2 ∧ kMany k = 1 ∧ kB0 k = 1 ∧ kA1 k = 0 ∧ kB1 k = 0 ∧ kPoint k = false) ∨ (k = 2 ∧ kPorts k = 3 ∧ kMany k = 2 ∧ kB0 k = 1 ∧ kA1 k = 0 ∧ kB1 k = 2 ∧ kPoint k = true) ∨
    (k = 3 ∧ kPorts k = 4 ∧ kMany k = 2 ∧ kB0 k = 1 ∧ kA1 k = 2 ∧ kB1 k = 3 ∧ kPoint k = false) ∨ (k ≠ 1 ∧ k ≠ 2 ∧ k ≠ 3 ∧ kPorts k = 0 ∧ kMany k = 0 ∧ kB0 k = 0 ∧ kA1 k = 0 ∧ kB1 k = 0 ∧ kPoint k = false) := by
  by_cases h1 : k = 1
  · subst h1; decide
  by_cases h2 : k = 2
  · subst h2; decide
  by_cases h3 : k = 3
  · subst h3; decide
  exact .inr (.inr (.inr ⟨h1, h2, h3, by simp [kPorts, h1, h2, h3], by simp [kMany, h1, h2, h3], by simp [kB0, h1, h2, h3], by simp [kA1, h3], by simp [kB1, h2, h3], by simp [kPoint, h2]⟩))

set_option maxRecDepth 100000 in
set_option maxHeartbeats 1000000 in
theorem of_any (k : Int) (h0 : 0 ≤ k) (h1 : k ≤ 255) (w : World) (K : Kinds w) :
    Calls Tryd.prog 81 #[.int .u8 k] w fun e w' => e = .returned (rowV k) ∧ Below w.heap.size w w' := by
  have hl := K.lt1
  by_cases h : k < 4
  · have : k = 0 ∨ k = 1 ∨ k = 2 ∨ k = 3 := by omega
    rcases this with rfl | rfl | rfl | rfl
    · have c0 := K.pkind 0 _ rfl
      have c1 := K.pkind 1 _ rfl
      have c2 := K.pkind 2 _ rfl
      have c3 := K.pkind 3 _ rfl
      have c4 := K.pkind 4 _ rfl
      have c5 := K.pkind 5 _ rfl
      have c6 := K.pkind 6 _ rfl
      clear K h0 h1 h
      go_enter Tryd.func81, Tryd.ntmps81
      go_wp2
      refine bodyPost_ret (v := rowV 0) (by simp [results, Tryd.results81, go_sem, rowV, kPorts, kMany, kB0, kA1, kB1, kPoint, *]) rfl ⟨rfl, ?_⟩
      repeat refine Below.setCell ?_ (by dsimp only; omega) _
      exact bself
    · have c0 := K.pkind 7 _ rfl
      have c1 := K.pkind 8 _ rfl
      have c2 := K.pkind 9 _ rfl
      have c3 := K.pkind 10 _ rfl
      have c4 := K.pkind 11 _ rfl
      have c5 := K.pkind 12 _ rfl
      have c6 := K.pkind 13 _ rfl
      clear K h0 h1 h
      go_enter Tryd.func81, Tryd.ntmps81
      go_wp2
      refine bodyPost_ret (v := rowV 1) (by simp [results, Tryd.results81, go_sem, rowV, kPorts, kMany, kB0, kA1, kB1, kPoint, *]) rfl ⟨rfl, ?_⟩
      repeat refine Below.setCell ?_ (by dsimp only; omega) _
      exact bself
    · have c0 := K.pkind 14 _ rfl
      have c1 := K.pkind 15 _ rfl
      have c2 := K.pkind 16 _ rfl
      have c3 := K.pkind 17 _ rfl
      have c4 := K.pkind 18 _ rfl
      have c5 := K.pkind 19 _ rfl
      have c6 := K.pkind 20 _ rfl
      clear K h0 h1 h
      go_enter Tryd.func81, Tryd.ntmps81
      go_wp2
      refine bodyPost_ret (v := rowV 2) (by simp [results, Tryd.results81, go_sem, rowV, kPorts, kMany, kB0, kA1, kB1, kPoint, *]) rfl ⟨rfl, ?_⟩
      repeat refine Below.setCell ?_ (by dsimp only; omega) _
      exact bself
    · have c0 := K.pkind 21 _ rfl
      have c1 := K.pkind 22 _ rfl
      have c2 := K.pkind 23 _ rfl
      have c3 := K.pkind 24 _ rfl
      have c4 := K.pkind 25 _ rfl
      have c5 := K.pkind 26 _ rfl
      have c6 := K.pkind 27 _ rfl
      clear K h0 h1 h
      go_enter Tryd.func81, Tryd.ntmps81
      go_wp2
      refine bodyPost_ret (v := rowV 3) (by simp [results, Tryd.results81, go_sem, rowV, kPorts, kMany, kB0, kA1, kB1, kPoint, *]) rfl ⟨rfl, ?_⟩
      repeat refine Below.setCell ?_ (by dsimp only; omega) _
      exact bself
  · have hr : rowV k = .agg #[.int .i64 0, .int .i64 0, .int .i64 0, .int .i64 0, .int .i64 0, .int .i64 0, .bool false] := by
      rcases kCases k with ⟨h, _⟩ | ⟨h, _⟩ | ⟨h, _⟩ | ⟨_, _, _, r1, r2, r3, r4, r5, r6⟩
      · omega
      · omega
      · omega
      · simp only [rowV, r1, r2, r3, r4, r5, r6]
    rw [hr]
    clear K hr
    go_enter Tryd.func81, Tryd.ntmps81
    go_wp2
    refine bodyPost_ret (v := .agg #[.int .i64 0, .int .i64 0, .int .i64 0, .int .i64 0, .int .i64 0, .int .i64 0, .bool false]) (by simp [results, Tryd.results81, go_sem, *]) rfl ⟨rfl, ?_⟩
    repeat refine Below.setCell ?_ (by dsimp only; omega) _
    exact bself

section
variable (x0 x1 x2 x3 x4 x5 x6 : Value) (w : World)
theorem row_field0 : (Instr.field 141 (.agg #[x0, x1, x2, x3, x4, x5, x6]) 0).run Tryd.prog w = .ok x0 w := by kernel_rfl
theorem row_field1 : (Instr.field 141 (.agg #[x0, x1, x2, x3, x4, x5, x6]) 1).run Tryd.prog w = .ok (.agg #[x1, x2, x3, x4]) w := by kernel_rfl
theorem row_field2 : (Instr.field 141 (.agg #[x0, x1, x2, x3, x4, x5, x6]) 2).run Tryd.prog w = .ok x5 w := by kernel_rfl
theorem row_field3 : (Instr.field 141 (.agg #[x0, x1, x2, x3, x4, x5, x6]) 3).run Tryd.prog w = .ok x6 w := by kernel_rfl
theorem ways_at0 : (Instr.index 139 (.agg #[x0, x1, x2, x3]) (.int .i64 0)).run Tryd.prog w = .ok (.agg #[x0, x1]) w := by kernel_rfl
theorem ways_at1 : (Instr.index 139 (.agg #[x0, x1, x2, x3]) (.int .i64 1)).run Tryd.prog w = .ok (.agg #[x2, x3]) w := by kernel_rfl
end
attribute [local go_sem] row_field0 row_field1 row_field2 row_field3

set_option maxHeartbeats 1000000 in
theorem ports_any (k : Int) (h0 : 0 ≤ k) (h1 : k ≤ 255) (w : World) (K : Kinds w) :
    Calls Tryd.prog 87 #[.int .u8 k] w fun e w' => e = .returned (.int .i64 (kPorts k)) ∧ Below w.heap.size w w' := by
  go_enter Tryd.func87, Tryd.ntmps87
  go_wp2_with fail
  (with_reducible refine (of_any k h0 h1 _ K).mono ?_)
  rintro e w1 ⟨rfl, hb1⟩
  unfold rowV
  go_wp2

  go_ret
  exact ⟨rfl, hb1⟩

set_option maxHeartbeats 1000000 in
theorem ways_any (k : Int) (h0 : 0 ≤ k) (h1 : k ≤ 255) (w : World) (K : Kinds w) :
    Calls Tryd.prog 49 #[.int .u8 k] w fun e w' => e = .returned (.int .i64 (kMany k)) ∧ Below w.heap.size w w' := by
  go_enter Tryd.func49, Tryd.ntmps49
  go_wp2_with fail
  (with_reducible refine (of_any k h0 h1 _ K).mono ?_)
  rintro e w1 ⟨rfl, hb1⟩
  unfold rowV
  go_wp2
  go_ret
  exact ⟨rfl, hb1⟩

/-- May a port be? -/
def mayB (s p : Int) : Bool := decide ((s = -1 ∧ p = 0) ∨ (0 ≤ s ∧ s < 24 ∧ 0 ≤ p ∧ p ≤ 3))
set_option maxRecDepth 100000 in
set_option maxHeartbeats 1000000 in
theorem may_any (s p : Int) (w : World) (K : Kinds w) :
    Calls Tryd.prog 82 #[.agg #[.int .i64 s, .int .i64 p]] w fun e w' => e = .returned (.bool (mayB s p)) ∧ Below w.heap.size w w' := by
  have hl := K.lt0
  have c0 := K.pnone 0 _ rfl
  have c1 := K.pnone 1 _ rfl
  clear K
  go_enter Tryd.func82, Tryd.ntmps82
  go_wp2
  all_goals
    (go_ret
     refine ⟨ret_bool ?_, bself⟩
     unfold mayB
     first | exact (decide_eq_true (by omega)).symm | exact (decide_eq_false (by omega)).symm | (rw [decide_eq_decide]; omega))

theorem from_any (k i : Int) (w : World) :
    Calls Tryd.prog 96 #[.int .u8 k, .int .i64 i] w fun e w' => e = .returned (.func (.func 99) #[] #[.pointer (some ⟨w.heap.size, 0, none⟩), .pointer (some ⟨w.heap.size + 1, 0, none⟩)]) ∧ w' = (w.alloc (.cells #[.int .u8 k] 5)).alloc (.cells #[.int .i64 i] 3) := by
  go_enter Tryd.func96, Tryd.ntmps96
  go_wp2
  go_ret
  exact ⟨rfl, rfl⟩

theorem kMany_le (k : Int) : kMany k ≤ 2 := by
  rcases kCases k with ⟨_, _, h, _⟩ | ⟨_, _, h, _⟩ | ⟨_, _, h, _⟩ | ⟨_, _, _, _, h, _⟩ <;> omega
end Go.Proofs.YtpnnbihofoomeaaDoor

/-
  A law of my own for 'for x := range f', f a function, in a plain walk: what the body writes is told by the blocks that it may write (A); the loop's book-keeping is out of sight. And: a function's contract where such loops have left their marks.
-/
namespace Go.Proofs.YtpnnbihofoomeaaDoor
open Go.RowKit Go.Shelf

/-- The blocks of which Z speaks lie as they lay. -/
structure Keep (Z : Nat → Prop) (W W' : World) : Prop where
  size : W.heap.size ≤ W'.heap.size
  block : ∀ b, Z b → W'.heap[b]? = W.heap[b]?
theorem Keep.refl (Z : Nat → Prop) (W : World) : Keep Z W W := ⟨Nat.le_refl _, fun _ _ => rfl⟩
theorem Keep.trans {Z : Nat → Prop} {A B C : World} (h : Keep Z A B) (k : Keep Z B C) : Keep Z A C := ⟨Nat.le_trans h.size k.size, fun b hb => (k.block b hb).trans (h.block b hb)⟩
theorem Keep.cell {Z : Nat → Prop} {W W' : World} (h : Keep Z W W') {p : Addr} (hz : Z p.block) : W'.cell? p = W.cell? p := World.cell?_of_block (w := W) (h.block p.block hz)
theorem Keep.frozen {Z : Nat → Prop} {W W' : World} (h : Keep Z W W') {p : Addr} (hz : Z p.block) : W'.frozen? p = W.frozen? p := World.frozen?_of_block (w := W) (h.block p.block hz)
theorem Keep.below {Z : Nat → Prop} {B : Nat} {W W' : World} (h : Below B W W') (hz : ∀ b, Z b → b < B) : Keep Z W W' := ⟨h.size, fun b hb => h.block b (hz b hb)⟩
theorem keepK_b {Z : Nat → Prop} {w : World} (hz : ∀ b, Z b → b < w.heap.size) (W : World) (l : Nat) (o o' : Obj) (hl : w.heap.size ≤ l) (_ : W.heap[l]? = some o) (_ : o.isCells = false) (_ : o.isWalk = false) : Keep Z W (W.putObj l o') :=
  ⟨by simp [World.putObj], fun b hb => World.putObj_heap_other (by have := hz b hb; omega)⟩

/-- From W to W' only the blocks of which A speaks, and new ones, have turned. -/
structure Writes (A : Nat → Prop) (W W' : World) : Prop where
  os : W'.os = W.os
  tape : W'.tape = W.tape
  output : W'.output = W.output
  size : W.heap.size ≤ W'.heap.size
  block : ∀ b, b < W.heap.size → ¬ A b → W'.heap[b]? = W.heap[b]?
theorem Writes.refl (A : Nat → Prop) (W : World) : Writes A W W := ⟨rfl, rfl, rfl, Nat.le_refl _, fun _ _ _ => rfl⟩
theorem Writes.trans {A : Nat → Prop} {X Y Z : World} (h : Writes A X Y) (k : Writes A Y Z) : Writes A X Z :=
  ⟨k.os.trans h.os, k.tape.trans h.tape, k.output.trans h.output, Nat.le_trans h.size k.size, fun b hb hn => (k.block b (Nat.lt_of_lt_of_le hb h.size) hn).trans (h.block b hb hn)⟩
theorem Writes.of_below {A : Nat → Prop} {W W' : World} (h : Below W.heap.size W W') : Writes A W W' := ⟨h.os, h.tape, h.output, h.size, fun b hb _ => h.block b hb⟩
theorem Writes.alloc {A : Nat → Prop} {X W : World} (h : Writes A X W) (o : Obj) : Writes A X (W.alloc o) := h.trans (.of_below bself)
theorem Writes.setCell {A : Nat → Prop} {X W : World} (h : Writes A X W) {p : Addr} (hp : A p.block) (u : Value) : Writes A X (W.setCell p u) :=
  h.trans ⟨rfl, rfl, rfl, by simp [World.setCell], fun b _ hn => Below.heap_setCell _ _ _ _ (fun e => hn (e ▸ hp))⟩
theorem Writes.cell {A : Nat → Prop} {W W' : World} (h : Writes A W W') (b o : Nat) (hb : b < W.heap.size) (hn : ¬ A b) : W'.cell? ⟨b, o, none⟩ = W.cell? ⟨b, o, none⟩ := World.cell?_of_block (w := W) (h.block b hb hn)
theorem Writes.frozen {A : Nat → Prop} {W W' : World} (h : Writes A W W') (b o : Nat) (hb : b < W.heap.size) (hn : ¬ A b) : W'.frozen? ⟨b, o, none⟩ = W.frozen? ⟨b, o, none⟩ := World.frozen?_of_block (w := W) (h.block b hb hn)
/-- Where all that may be written lies at or behind B, what lies below is as it was. -/
theorem Writes.below {A : Nat → Prop} {B : Nat} {X W W' : World} (h : Writes A W W') (hX : Below B X W) (hB : B ≤ W.heap.size) (hA : ∀ b, A b → B ≤ b) : Below B X W' :=
  hX.trans ⟨h.os, h.tape, h.output, h.size, fun b hb => h.block b (by omega) (fun ha => by have := hA b ha; omega)⟩
theorem Writes.mono {A A' : Nat → Prop} {W W' : World} (h : Writes A W W') (hA : ∀ b, A b → A' b) : Writes A' W W' := ⟨h.os, h.tape, h.output, h.size, fun b hb hn => h.block b hb (fun ha => hn (hA b ha))⟩

/-- How the body of a round may be left. -/
def roundPost {α : Type} (A : Nat → Prop) (I : List α → World → Prop) (Ix : Code → List α → World → Prop) (xs : List α) (W : World) : Exit → Act → World → Prop
  | .normal, _, W' => Writes A W W' ∧ I xs W'
  | .ret, _, W' => Writes A W W' ∧ Ix .ret xs W'
  | .exit id, _, W' => Writes A W W' ∧ Ix (.exit id) xs W'
  | .goto t, _, W' => Writes A W W' ∧ Ix (.goto t) xs W'
  | .panic _, _, _ => False
  | .outgrown, _, _ => False

theorem ownFrom_of_blocks {β : Type} {A : Nat → Prop} {w : World} {I : β → World → Prop} (hA : ∀ b, A b → b < w.heap.size) (hI : ∀ s W W', I s W → (∀ b, A b → W'.heap[b]? = W.heap[b]?) → I s W') :
    OwnFrom w.heap.size (fun s W => I s W ∧ Writes A w W) := by
  rintro s W W' row ⟨hi, hw⟩ hg hr
  have hk : ∀ b, b < w.heap.size → W'.heap[b]? = W.heap[b]? := fun b hb => hg.block b (Nat.lt_of_lt_of_le hb hw.size) (fun e => by have := (hr b e.symm).1; omega)
  exact ⟨hI s W W' hi (fun b hb => hk b (hA b hb)), ⟨hg.os.trans hw.os, hg.tape.trans hw.tape, hg.output.trans hw.output, Nat.le_trans hw.size hg.size, fun b hb hn => (hk b hb).trans (hw.block b hb hn)⟩⟩

/-- **'for x := range f' IN A PLAIN WALK.** -/
theorem wp_range {P : Program} {α : Type} {g : Operand} {ps : Array Tmp} {assign body : Code} {Q : Exit → Act → World → Prop} {a : Act} {w : World}
    {gf : Nat} {lb : Array Value} (hg : a.eval g = .func (.func gf) #[] lb) (eg : ∀ args w, (callFunc gf args).run P w = .ok (.enter gf args) w)
    {encs : α → Array Value} {S Sp : List α → Prop} {N : Nat} (A : Nat → Prop) (hA : ∀ b, A b → b < w.heap.size)
    (hseq : SeqStopsK Fence.wide 4 P gf lb encs (Keep fun b => b < w.heap.size ∧ ¬ A b) S Sp N w) (hps : ∀ x, (encs x).size = ps.size)
    (I : List α → World → Prop) (Ix : Code → List α → World → Prop) (hI : ∀ s W W', I s W → (∀ b, A b → W'.heap[b]? = W.heap[b]?) → I s W') (hIx : ∀ c s W W', Ix c s W → (∀ b, A b → W'.heap[b]? = W.heap[b]?) → Ix c s W')
    (h0 : I [] w) (a₁ : α → Act)
    (hassign : ∀ (l : Nat) (x : α) (W : World) (K : Act → World → Prop), K (a₁ x) W →
      assign.wpIn (Fence.wide.inRound l) 3 P (Exit.then K (fun _ _ _ => False)) { tmps := (ps.zip (encs x)).foldl (fun t (p, v) => t.setIfInBounds p v) a.tmps, defers := [] } W)
    (hbody : ∀ (l : Nat) (pre : List α) (x : α) (W : World), Writes A w W → I pre W → pre.length < N → body.wpIn (Fence.wide.inRound l) 3 P (roundPost A I Ix (pre ++ [x]) W) (a₁ x) W)
    (hdone : ∀ (D : Nat) (xs : List α) (W : World), w.heap.size ≤ D → S xs → Writes A w W → I xs W → W.heap[D]? = some (.deferred (some [])) → Q .normal { a with defers := { target := .collected D, args := #[] } :: a.defers } W)
    (hstop : ∀ (D : Nat) (c : Code) (pre : List α) (W : World), w.heap.size ≤ D → Sp pre → Writes A w W → Ix c pre W → W.heap[D]? = some (.deferred (some [])) → c.wp P Q { a with defers := { target := .collected D, args := #[] } :: a.defers } W) :
    (Code.rangeFunc g ps assign body).wp P Q a w := by
  refine (wpIn_wide (n := 5)).1 (wpIn_rangeFunc_ownG (F := Fence.wide) (n := 5) rfl (by decide) hg trivial eg hseq (fun h k => h.trans k) (keepK_b fun b h => h.1) (Below.refl _ _) hps
    (fun s W => I s W ∧ Writes A w W) (fun c s W => Ix c s W ∧ Writes A w W) (ownFrom_of_blocks hA hI) (fun c => ownFrom_of_blocks hA (hIx c)) ⟨h0, .refl _ _⟩ a₁ hassign ?_ ?_ ?_)
  · rintro l pre x W ⟨hi, hw⟩ hlen
    refine wpIn_mono (hbody l pre x W hw hi hlen) ?_
    have kf : ∀ W', Writes A W W' → KeepsFrom w.heap.size W W' := fun W' h => ⟨h.size, fun k o hB hk _ => (h.block k (Array.getElem?_eq_some_iff.1 hk).1 (fun ha => by have := hA k ha; omega)).trans hk⟩
    have kp : ∀ W', Writes A W W' → Keep (fun b => b < w.heap.size ∧ ¬ A b) W W' := fun W' h => ⟨h.size, fun b hb => h.block b (Nat.lt_of_lt_of_le hb.1 hw.size) hb.2⟩
    rintro e a' W' hq
    cases e with
    | normal => exact ⟨kf W' hq.1, kp W' hq.1, hq.2, hw.trans hq.1⟩
    | ret => exact ⟨kf W' hq.1, hq.2, hw.trans hq.1⟩
    | exit id => exact ⟨kf W' hq.1, hq.2, hw.trans hq.1⟩
    | goto t => exact ⟨kf W' hq.1, hq.2, hw.trans hq.1⟩
    | panic ch => exact hq.elim
    | outgrown => exact hq.elim
  · rintro D xs W hD hS ⟨hi, hw⟩ hK
    exact hdone D xs W hD hS hw hi hK
  · rintro D c pre W hD hS ⟨hi, hw⟩ hK
    exact wpIn_wide.2 (hstop D c pre W hD hS hw hi hK)

/-- The marks that loops over functions have left: each at a block of its own that holds nothing to do. -/
structure Marked (n₀ : Nat) (w : World) (ds : List Deferred) (Ds : List Nat) : Prop where
  eq : ds = Ds.map fun D => { target := .collected D, args := #[] }
  nodup : Ds.Nodup
  held : ∀ D, D ∈ Ds → n₀ ≤ D ∧ w.heap[D]? = some (.deferred (some []))
theorem Marked.nil (n₀ : Nat) (w : World) : Marked n₀ w [] [] := ⟨rfl, List.nodup_nil, fun _ h => by cases h⟩
/-- What a function's body must achieve where it holds such loops: all marks are known; and behind their taking up, by which no cells turn and nothing below n₀, the result is there. -/
def markPost (P : Program) (fn : Func) (n₀ : Nat) (R : Ending → World → Prop) : Exit → Act → World → Prop
  | .normal, a, w | .ret, a, w => (∃ Ds, Marked n₀ w a.defers Ds) ∧ ∀ w', Below n₀ w w' → (∀ (b : Nat) (o : Obj), w.heap[b]? = some o → o.isCells = true → w'.heap[b]? = some o) → ∃ v, (results fn a.tmps).run P w' = .ok v w' ∧ R (.returned v) w'
  | _, _, _ => False

theorem leaves_marked {P : Program} {fn : Func} {n₀ : Nat} {tmps : Array Value} {R : Ending → World → Prop} : ∀ (Ds : List Nat) (ds : List Deferred) (w w0 : World), Marked n₀ w ds Ds → Below n₀ w0 w → (∀ (b : Nat) (o : Obj), w0.heap[b]? = some o → o.isCells = true → w.heap[b]? = some o) →
    (∀ w', Below n₀ w0 w' → (∀ (b : Nat) (o : Obj), w0.heap[b]? = some o → o.isCells = true → w'.heap[b]? = some o) → ∃ v, (results fn tmps).run P w' = .ok v w' ∧ R (.returned v) w') → LeavesInM Fence.wide 5 P fn tmps R ds .returning w
  | [], ds, w, w0, hm, hb, hc, h => by
    obtain ⟨rfl, _, _⟩ := hm
    exact h w hb hc
  | D :: Ds, ds, w, w0, hm, hb, hc, h => by
    obtain ⟨rfl, hn, hh⟩ := hm
    obtain ⟨hD, hD2⟩ := hh D (by simp)
    have hlt : D < w.heap.size := (Array.getElem?_eq_some_iff.1 hD2).1
    have hb1 : Below n₀ w0 (w.putObj D (.deferred none)) := hb.grown (grownBy_putObj' w D _) (by omega) (fun k e => by cases e; exact hD)
    refine ⟨by simp, .inl ⟨D, _, rfl, run_takeDeferred hD2, leaves_marked Ds _ _ w0 ⟨rfl, (List.nodup_cons.1 hn).2, fun D' h' => ?_⟩ hb1 ?_ h⟩⟩
    · have hne : D' ≠ D := fun e => (List.nodup_cons.1 hn).1 (e ▸ h')
      exact ⟨(hh D' (by simp [h'])).1, (World.putObj_heap_other hne).trans (hh D' (by simp [h'])).2⟩
    · intro b o ho hco
      have hbo := hc b o ho hco
      have hne : b ≠ D := by
        rintro rfl
        rw [hD2] at hbo
        cases hbo
        cases hco
      exact (World.putObj_heap_other hne).trans hbo

/-- **A FUNCTION's CONTRACT, WHERE ITS BODY HOLDS SUCH LOOPS.** -/
theorem calls_marked {P : Program} {f : FuncId} {fn : Func} {c : Code} {args : Array Value} {w : World} {R : Ending → World → Prop} (n₀ : Nat)
    (hf : P.funcs[f]? = some fn) (hb : fn.body = some c)
    (h : c.wp P (markPost P fn n₀ R) { tmps := args ++ Array.replicate (fn.ntmps - args.size) undef, defers := [] } w) : Calls P f args w R := by
  refine (callsIn_wide (n := 5)).1 (callsIn_of_wp_marks hf hb trivial (wpIn_mono ((wpIn_wide (n := 5)).2 h) ?_) rfl)
  rintro e a w hq
  cases e with
  | normal => obtain ⟨⟨Ds, hm⟩, hr⟩ := hq; exact leaves_marked Ds _ w w hm (Below.refl _ _) (fun _ _ h _ => h) hr
  | ret => obtain ⟨⟨Ds, hm⟩, hr⟩ := hq; exact leaves_marked Ds _ w w hm (Below.refl _ _) (fun _ _ h _ => h) hr
  | exit id => exact hq.elim
  | goto t => exact hq.elim
  | panic ch => exact hq.elim
  | outgrown => exact hq.elim
theorem cells_kept {w w' : World} (h : ∀ (b : Nat) (o : Obj), w.heap[b]? = some o → o.isCells = true → w'.heap[b]? = some o) {b o : Nat} {v : Value} (hc : w.cell? ⟨b, o, none⟩ = some v) : w'.cell? ⟨b, o, none⟩ = some v := by
  have hs : ∃ ob, w.heap[b]? = some ob ∧ ob.isCells = true := by
    unfold World.cell? at hc
    simp only at hc
    split at hc
    · rename_i c t r heq
      exact ⟨_, heq, rfl⟩
    · cases hc
  obtain ⟨ob, h1, h2⟩ := hs
  exact (World.cell?_of_block (w := w) (a := ⟨b, o, none⟩) ((h b ob h1 h2).trans h1.symm)).trans hc
end Go.Proofs.YtpnnbihofoomeaaDoor

/-
  The law of 'for x := range f' once more, wider: the body may write, beside the blocks of A, whatever rows of the element types of E were laid since the loop began (slices that it lets grow); the iterator may hold memory of its own, of other types.
-/
namespace Go.Proofs.YtpnnbihofoomeaaDoor
open Go.RowKit Go.Shelf

/-- A row of an element type of which E speaks. -/
def ofE (E : TypeId → Prop) (o : Obj) : Prop := ∃ c e r, o = .cells c e r ∧ E e
theorem ofE.cells {E : TypeId → Prop} {o : Obj} (h : ofE E o) : o.isCells = true := by obtain ⟨c, e, r, rfl, _⟩ := h; rfl

/-- What is cells, but for the blocks of A and for rows of E from n on, is as it was. -/
structure KeepsE (A : Nat → Prop) (E : TypeId → Prop) (n : Nat) (W W' : World) : Prop where
  size : W.heap.size ≤ W'.heap.size
  same : ∀ (b : Nat) (o : Obj), W.heap[b]? = some o → o.isCells = true → ¬ A b → ¬ (n ≤ b ∧ ofE E o) → W'.heap[b]? = some o
theorem KeepsE.refl (A : Nat → Prop) (E : TypeId → Prop) (n : Nat) (W : World) : KeepsE A E n W W := ⟨Nat.le_refl _, fun _ _ h _ _ _ => h⟩
theorem KeepsE.trans {A : Nat → Prop} {E : TypeId → Prop} {n : Nat} {X Y Z : World} (h : KeepsE A E n X Y) (k : KeepsE A E n Y Z) : KeepsE A E n X Z :=
  ⟨Nat.le_trans h.size k.size, fun b o ho hc ha he => k.same b o (h.same b o ho hc ha he) hc ha he⟩
theorem KeepsE.of_below {A : Nat → Prop} {E : TypeId → Prop} {n : Nat} {W W' : World} (h : Below W.heap.size W W') : KeepsE A E n W W' :=
  ⟨h.size, fun b _ ho _ _ _ => (h.block b (Array.getElem?_eq_some_iff.1 ho).1).trans ho⟩

theorem isCells_of_cell {W : World} {b o : Nat} {v : Value} (h : W.cell? ⟨b, o, none⟩ = some v) : ∃ c e r, W.heap[b]? = some (.cells c e r) := by
  unfold World.cell? at h
  simp only at h
  split at h
  · rename_i c e r heq
    exact ⟨c, e, r, heq⟩
  · cases h
theorem KeepsE.old {A : Nat → Prop} {E : TypeId → Prop} {n : Nat} {W W' : World} (h : KeepsE A E n W W') {b o : Nat} {v : Value} (hb : b < n) (ha : ¬ A b) (hc : W.cell? ⟨b, o, none⟩ = some v) : W'.cell? ⟨b, o, none⟩ = some v := by
  obtain ⟨c, e, r, hh⟩ := isCells_of_cell hc
  exact (World.cell?_of_block (w := W) (a := ⟨b, o, none⟩) ((h.same b _ hh rfl ha (fun k => by omega)).trans hh.symm)).trans hc
/-- The row at block b is of element type e. -/
def rowOf (W : World) (b : Nat) (e : TypeId) : Prop := ∃ c r, W.heap[b]? = some (.cells c e r)
theorem KeepsE.own {A : Nat → Prop} {E : TypeId → Prop} {n : Nat} {W W' : World} (h : KeepsE A E n W W') {b : Nat} {e : TypeId} (hr : rowOf W b e) (ha : ¬ A b) (he : ¬ E e) : W'.heap[b]? = W.heap[b]? := by
  obtain ⟨c, r, hh⟩ := hr
  refine (h.same b _ hh rfl ha ?_).trans hh.symm
  rintro ⟨_, c', e', r', h1, h2⟩
  cases h1
  exact he h2
theorem rowOf.keep {W W' : World} {b : Nat} {e : TypeId} (hr : rowOf W b e) (h : W'.heap[b]? = W.heap[b]?) : rowOf W' b e := by
  obtain ⟨c, r, hh⟩ := hr
  exact ⟨c, r, h.trans hh⟩
theorem rowOf.new (W : World) (c : Array Value) (e : TypeId) (r : Nat × Nat) : rowOf (W.alloc (.cells c e r)) W.heap.size e := ⟨c, r, World.alloc_heap_new W _⟩
theorem rowOf.lt {W : World} {b : Nat} {e : TypeId} (hr : rowOf W b e) : b < W.heap.size := by
  obtain ⟨c, r, hh⟩ := hr
  exact (Array.getElem?_eq_some_iff.1 hh).1
theorem rowOf.alloc {W : World} {b : Nat} {e : TypeId} (hr : rowOf W b e) (o : Obj) : rowOf (W.alloc o) b e := hr.keep ((bself (w := W) (o := o)).block b hr.lt)
theorem rowOf.set {W : World} {b : Nat} {e : TypeId} (hr : rowOf W b e) (p : Addr) (v : Value) : rowOf (W.setCell p v) b e := by
  by_cases h : b = p.block
  · obtain ⟨c, r, hh⟩ := hr
    subst h
    obtain ⟨hlt, hh⟩ := Array.getElem?_eq_some_iff.1 hh
    refine ⟨if p.spot.isSome = true then c else c.setIfInBounds p.off v, r, ?_⟩
    simp only [World.setCell]
    rw [Array.getElem?_eq_getElem (by simpa using hlt), Array.getElem_modify, if_pos rfl, hh]
  · exact hr.keep (Below.heap_setCell _ _ _ _ h)

/-- From W to W' only the blocks of A, rows of E from n on, and new ones, have turned. -/
structure WritesE (A : Nat → Prop) (E : TypeId → Prop) (n : Nat) (W W' : World) : Prop where
  os : W'.os = W.os
  tape : W'.tape = W.tape
  output : W'.output = W.output
  size : W.heap.size ≤ W'.heap.size
  same : ∀ (b : Nat) (o : Obj), W.heap[b]? = some o → ¬ A b → ¬ (n ≤ b ∧ ofE E o) → W'.heap[b]? = some o
theorem WritesE.refl (A : Nat → Prop) (E : TypeId → Prop) (n : Nat) (W : World) : WritesE A E n W W := ⟨rfl, rfl, rfl, Nat.le_refl _, fun _ _ h _ _ => h⟩
theorem WritesE.trans {A : Nat → Prop} {E : TypeId → Prop} {n : Nat} {X Y Z : World} (h : WritesE A E n X Y) (k : WritesE A E n Y Z) : WritesE A E n X Z :=
  ⟨k.os.trans h.os, k.tape.trans h.tape, k.output.trans h.output, Nat.le_trans h.size k.size, fun b o ho ha he => k.same b o (h.same b o ho ha he) ha he⟩
theorem WritesE.of_below {A : Nat → Prop} {E : TypeId → Prop} {n : Nat} {W W' : World} (h : Below W.heap.size W W') : WritesE A E n W W' :=
  ⟨h.os, h.tape, h.output, h.size, fun b _ ho _ _ => (h.block b (Array.getElem?_eq_some_iff.1 ho).1).trans ho⟩
theorem WritesE.alloc {A : Nat → Prop} {E : TypeId → Prop} {n : Nat} {X W : World} (h : WritesE A E n X W) (o : Obj) : WritesE A E n X (W.alloc o) := h.trans (.of_below bself)
theorem WritesE.setCell {A : Nat → Prop} {E : TypeId → Prop} {n : Nat} {X W : World} (h : WritesE A E n X W) {p : Addr} (hp : A p.block) (u : Value) : WritesE A E n X (W.setCell p u) :=
  h.trans ⟨rfl, rfl, rfl, by simp [World.setCell], fun b _ ho ha _ => (Below.heap_setCell _ _ _ _ (fun e => ha (by rw [e]; exact hp))).trans ho⟩
/-- What grew by an append onto a row of its own. -/
theorem WritesE.grown {A : Nat → Prop} {E : TypeId → Prop} {n : Nat} {X W W' : World} {row : Option Nat} (h : WritesE A E n X W) (hg : W.grownBy W' row) (hr : ∀ g, row = some g → n ≤ g ∧ ∃ o, W.heap[g]? = some o ∧ ofE E o) : WritesE A E n X W' := by
  refine h.trans ⟨hg.os, hg.tape, hg.output, hg.size, fun b o ho ha he => (hg.block b (Array.getElem?_eq_some_iff.1 ho).1 ?_).trans ho⟩
  intro e
  obtain ⟨h1, o', h2, h3⟩ := hr b e.symm
  rw [h2] at ho
  cases ho
  exact he ⟨h1, h3⟩
theorem WritesE.keeps {A : Nat → Prop} {E : TypeId → Prop} {n : Nat} {W W' : World} (h : WritesE A E n W W') : KeepsE A E n W W' := ⟨h.size, fun b o ho _ ha he => h.same b o ho ha he⟩
theorem WritesE.cell {A : Nat → Prop} {E : TypeId → Prop} {n : Nat} {W W' : World} (h : WritesE A E n W W') {b o : Nat} {v : Value} (hb : b < n) (ha : ¬ A b) (hc : W.cell? ⟨b, o, none⟩ = some v) : W'.cell? ⟨b, o, none⟩ = some v := h.keeps.old hb ha hc
/-- Where all that may be written lies at or behind B, what lies below is as it was. -/
theorem WritesE.below {A : Nat → Prop} {E : TypeId → Prop} {n B : Nat} {X W W' : World} (h : WritesE A E n W W') (hX : Below B X W) (hB : B ≤ W.heap.size) (hn : B ≤ n) (hA : ∀ b, A b → B ≤ b) : Below B X W' := by
  refine hX.trans ⟨h.os, h.tape, h.output, h.size, fun b hb => ?_⟩
  have hl : b < W.heap.size := by omega
  rw [Array.getElem?_eq_getElem hl]
  exact h.same b _ (Array.getElem?_eq_getElem hl) (fun ha => by have := hA b ha; omega) (fun k => by omega)

/-- How the body of a round may be left. -/
def roundPostE {α : Type} (A : Nat → Prop) (E : TypeId → Prop) (n : Nat) (I : List α → World → Prop) (Ix : Code → List α → World → Prop) (xs : List α) (W : World) : Exit → Act → World → Prop
  | .normal, _, W' => WritesE A E n W W' ∧ I xs W'
  | .ret, _, W' => WritesE A E n W W' ∧ Ix .ret xs W'
  | .exit id, _, W' => WritesE A E n W W' ∧ Ix (.exit id) xs W'
  | .goto t, _, W' => WritesE A E n W W' ∧ Ix (.goto t) xs W'
  | .panic _, _, _ => False
  | .outgrown, _, _ => False

/-- No row of cells has turned. -/
def SameCells (W W' : World) : Prop := ∀ (b : Nat) (o : Obj), W.heap[b]? = some o → o.isCells = true → W'.heap[b]? = some o
theorem SameCells.cell {W W' : World} (h : SameCells W W') {b o : Nat} {v : Value} (hc : W.cell? ⟨b, o, none⟩ = some v) : W'.cell? ⟨b, o, none⟩ = some v := cells_kept h hc
theorem SameCells.frozen {W W' : World} (h : SameCells W W') {b o x : Nat} {v : Value} (hc : W.cell? ⟨b, o, none⟩ = some v) : W'.frozen? ⟨b, x, none⟩ = W.frozen? ⟨b, x, none⟩ := by
  obtain ⟨c, e, r, hh⟩ := isCells_of_cell hc
  exact World.frozen?_of_block (w := W) (a := ⟨b, x, none⟩) ((h b _ hh rfl).trans hh.symm)

theorem ownFrom_of_cells {β : Type} {A : Nat → Prop} {E : TypeId → Prop} {w : World} {I : β → World → Prop} (hI : ∀ s W W', I s W → SameCells W W' → W.heap.size ≤ W'.heap.size → I s W') :
    OwnFrom w.heap.size (fun s W => I s W ∧ WritesE A E w.heap.size w W) := by
  rintro s W W' row ⟨hi, hw⟩ hg hr
  refine ⟨hI s W W' hi (fun b o ho hc => ?_) hg.size, ⟨hg.os.trans hw.os, hg.tape.trans hw.tape, hg.output.trans hw.output, Nat.le_trans hw.size hg.size, fun b o ho ha he => ?_⟩⟩
  · refine (hg.block b (Array.getElem?_eq_some_iff.1 ho).1 (fun e => ?_)).trans ho
    obtain ⟨_, o', h2, h3⟩ := hr b e.symm
    rw [h2] at ho
    cases ho
    rw [hc] at h3
    cases h3
  · have hlt : b < W.heap.size := Nat.lt_of_lt_of_le (Array.getElem?_eq_some_iff.1 ho).1 hw.size
    exact (hg.block b hlt (fun e => by have := (hr b e.symm).1; have := (Array.getElem?_eq_some_iff.1 ho).1; omega)).trans (hw.same b o ho ha he)

theorem keepE_put {A : Nat → Prop} {E : TypeId → Prop} {n : Nat} (W : World) (l : Nat) (o o' : Obj) (hl : W.heap[l]? = some o) (hc : o.isCells = false) : KeepsE A E n W (W.putObj l o') := by
  refine ⟨by simp [World.putObj], fun b ob ho hob _ _ => ?_⟩
  refine (World.putObj_heap_other (fun e => ?_)).trans ho
  subst e
  rw [hl] at ho
  cases ho
  rw [hob] at hc
  cases hc

/-- **'for x := range f' IN A PLAIN WALK, the wider law.** -/
theorem wp_range_e {P : Program} {α : Type} {g : Operand} {ps : Array Tmp} {assign body : Code} {Q : Exit → Act → World → Prop} {a : Act} {w : World}
    {gf : Nat} {lb : Array Value} (hg : a.eval g = .func (.func gf) #[] lb) (eg : ∀ args w, (callFunc gf args).run P w = .ok (.enter gf args) w)
    {encs : α → Array Value} {S Sp : List α → Prop} {N : Nat} (A : Nat → Prop) (E : TypeId → Prop) (hA : ∀ b, A b → b < w.heap.size)
    (hseq : SeqStopsK Fence.wide 4 P gf lb encs (KeepsE A E w.heap.size) S Sp N w) (hps : ∀ x, (encs x).size = ps.size)
    (I : List α → World → Prop) (Ix : Code → List α → World → Prop) (hI : ∀ s W W', I s W → SameCells W W' → W.heap.size ≤ W'.heap.size → I s W') (hIx : ∀ c s W W', Ix c s W → SameCells W W' → W.heap.size ≤ W'.heap.size → Ix c s W')
    (h0 : I [] w) (a₁ : α → Act)
    (hassign : ∀ (l : Nat) (x : α) (W : World) (K : Act → World → Prop), K (a₁ x) W →
      assign.wpIn (Fence.wide.inRound l) 3 P (Exit.then K (fun _ _ _ => False)) { tmps := (ps.zip (encs x)).foldl (fun t (p, v) => t.setIfInBounds p v) a.tmps, defers := [] } W)
    (hbody : ∀ (l : Nat) (pre : List α) (x : α) (W : World), WritesE A E w.heap.size w W → I pre W → pre.length < N → body.wpIn (Fence.wide.inRound l) 3 P (roundPostE A E w.heap.size I Ix (pre ++ [x]) W) (a₁ x) W)
    (hdone : ∀ (D : Nat) (xs : List α) (W : World), w.heap.size ≤ D → S xs → WritesE A E w.heap.size w W → I xs W → W.heap[D]? = some (.deferred (some [])) → Q .normal { a with defers := { target := .collected D, args := #[] } :: a.defers } W)
    (hstop : ∀ (D : Nat) (c : Code) (pre : List α) (W : World), w.heap.size ≤ D → Sp pre → WritesE A E w.heap.size w W → Ix c pre W → W.heap[D]? = some (.deferred (some [])) → c.wp P Q { a with defers := { target := .collected D, args := #[] } :: a.defers } W) :
    (Code.rangeFunc g ps assign body).wp P Q a w := by
  refine (wpIn_wide (n := 5)).1 (wpIn_rangeFunc_ownG (F := Fence.wide) (n := 5) rfl (by decide) hg trivial eg hseq (fun h k => h.trans k) (fun W l o o' _ hl hc _ => keepE_put W l o o' hl hc) (Below.refl _ _) hps
    (fun s W => I s W ∧ WritesE A E w.heap.size w W) (fun c s W => Ix c s W ∧ WritesE A E w.heap.size w W) (ownFrom_of_cells hI) (fun c => ownFrom_of_cells (hIx c)) ⟨h0, .refl _ _ _ _⟩ a₁ hassign ?_ ?_ ?_)
  · rintro l pre x W ⟨hi, hw⟩ hlen
    refine wpIn_mono (hbody l pre x W hw hi hlen) ?_
    have kf : ∀ W', WritesE A E w.heap.size W W' → KeepsFrom w.heap.size W W' := fun W' h => ⟨h.size, fun k o hB hk hc => ?_⟩
    · rintro e a' W' hq
      cases e with
      | normal => exact ⟨kf W' hq.1, hq.1.keeps, hq.2, hw.trans hq.1⟩
      | ret => exact ⟨kf W' hq.1, hq.2, hw.trans hq.1⟩
      | exit id => exact ⟨kf W' hq.1, hq.2, hw.trans hq.1⟩
      | goto t => exact ⟨kf W' hq.1, hq.2, hw.trans hq.1⟩
      | panic ch => exact hq.elim
      | outgrown => exact hq.elim
    · refine h.same k o hk (fun ha => by have := hA k ha; omega) (fun he => ?_)
      rw [he.2.cells] at hc
      cases hc
  · rintro D xs W hD hS ⟨hi, hw⟩ hK
    exact hdone D xs W hD hS hw hi hK
  · rintro D c pre W hD hS ⟨hi, hw⟩ hK
    exact wpIn_wide.2 (hstop D c pre W hD hS hw hi hK)
end Go.Proofs.YtpnnbihofoomeaaDoor

/-
  Package port: the iterator over the ways from a port; Way; Outs.
-/
namespace Go.Proofs.YtpnnbihofoomeaaDoor
open Go.RowKit Go.Shelf
attribute [local go_sem] Oper.semAt_some

/-- The ways from port i, over the first n ways: where to, and their numbers. -/
def prs (i : Int) (a b : Nat → Int) : Nat → List (Int × Int)
  | 0 => []
  | n + 1 => prs i a b n ++ ((if a n = i then [(b n, (n : Int))] else []) ++ (if b n = i then [(a n, (n : Int))] else []))
def aOf (k : Int) (n : Nat) : Int := if n = 0 then 0 else kA1 k
def bOf (k : Int) (n : Nat) : Int := if n = 0 then kB0 k else kB1 k
def pairs (k i : Int) : List (Int × Int) := prs i (aOf k) (bOf k) (kMany k).toNat
theorem prs_length (i : Int) (a b : Nat → Int) : ∀ n, (prs i a b n).length ≤ 2 * n
  | 0 => by simp [prs]
  | n + 1 => by
    have := prs_length i a b n
    unfold prs
    split <;> split <;> simp <;> omega

theorem prs_prefix {i : Int} {a b : Nat → Int} {n m : Nat} (h : n ≤ m) : prs i a b n <+: prs i a b m := by
  induction h with
  | refl => exact List.prefix_rfl
  | step _ ih => exact ih.trans (List.prefix_append _ _)

/-- The iterator's own row, as it stands. -/
structure RowAt (k : Int) (Br : Nat) (W : World) : Prop where
  c1 : W.cell? ⟨Br, 1, none⟩ = some (.int .i64 0)
  c2 : W.cell? ⟨Br, 2, none⟩ = some (.int .i64 (kB0 k))
  c3 : W.cell? ⟨Br, 3, none⟩ = some (.int .i64 (kA1 k))
  c4 : W.cell? ⟨Br, 4, none⟩ = some (.int .i64 (kB1 k))
  row : rowOf W Br 141

set_option maxRecDepth 100000 in
set_option maxHeartbeats 2000000 in
theorem from1_in (l Bk Bi n₀ : Nat) (k i : Int) (h0 : 0 ≤ k) (h1 : k ≤ 255) (A : Nat → Prop) (E : TypeId → Prop) (hA : ∀ b, A b → b < n₀) (hk : Bk < n₀ ∧ ¬ A Bk) (hi : Bi < n₀ ∧ ¬ A Bi)
    (hE1 : ¬ E 141) (hE2 : ¬ E 138) (J Jx : List (Int × Int) → World → Prop) (W : World) (hW : n₀ ≤ W.heap.size) (hJ : AbidesFrom W.heap.size J)
    (hY : ∀ pre x W1, J pre W1 → pre.length < 4 → YieldAt Fence.wide 3 Tryd.prog l #[.int .i64 (x : Int × Int).1, .int .i64 x.2] W1 fun e W' =>
      (e = .returned (.bool true) ∧ J (pre ++ [x]) W' ∧ KeepsE A E n₀ W1 W') ∨ (e = .returned (.bool false) ∧ Jx (pre ++ [x]) W'))
    (ck : W.cell? ⟨Bk, 0, none⟩ = some (.int .u8 k)) (ci : W.cell? ⟨Bi, 0, none⟩ = some (.int .i64 i)) (K : Kinds W) (hJ0 : J [] W) :
    CallsIn Fence.wide 4 Tryd.prog 99 #[.func (.yield l) #[] #[], .pointer (some ⟨Bk, 0, none⟩), .pointer (some ⟨Bi, 0, none⟩)] W fun e W' => (∃ v, e = .returned v) ∧
      ((∃ ys, ys = pairs k i ∧ J ys W') ∨ (∃ pre, (pre <+: pairs k i) ∧ Jx pre W')) := by
  refine callsIn_of_wp Tryd.func99 rfl trivial ?_ rfl
  simp only [Tryd.ntmps99, List.size_toArray, List.length_cons, List.length_nil, Nat.reduceAdd, Nat.reduceSub, Array.replicate_succ, Array.replicate_zero, List.push_toArray, List.append_toArray, List.nil_append, List.cons_append]
  gi_wp2_with fail
  refine ⟨trivial, (callsIn_wide.2 (of_any k h0 h1 W K)).mono ?_⟩
  rintro e w1 ⟨rfl, hb1⟩
  have hm0 : 0 ≤ kMany k := by
    rcases kCases k with ⟨_, _, h, _⟩ | ⟨_, _, h, _⟩ | ⟨_, _, h, _⟩ | ⟨_, _, _, _, h, _⟩ <;> omega
  have hm2 := kMany_le k
  have hsz : W.heap.size ≤ w1.heap.size := hb1.size
  have R0 : RowAt k w1.heap.size (w1.alloc (.cells #[.int .i64 (kPorts k), .int .i64 0, .int .i64 (kB0 k), .int .i64 (kA1 k), .int .i64 (kB1 k), .int .i64 (kMany k), .bool (kPoint k)] 141)) :=
    ⟨by simp [go_sem], by simp [go_sem], by simp [go_sem], by simp [go_sem], .new _ _ _ _⟩
  have hJg : ∀ s (X Y : World), W.heap.size ≤ X.heap.size → J s X → Below X.heap.size X Y → J s Y := fun s X Y _ hx hb => hJ s X Y none hx ⟨hb.os, hb.tape, hb.output, hb.size, fun k' hk' _ => hb.block k' hk'⟩ (fun r e => by cases e)
  have K0 : KeepsE A E n₀ W (w1.alloc (.cells #[.int .i64 (kPorts k), .int .i64 0, .int .i64 (kB0 k), .int .i64 (kA1 k), .int .i64 (kB1 k), .int .i64 (kMany k), .bool (kPoint k)] 141)) :=
    .of_below (bchain hb1 bself)
  have J0 := hJg _ _ _ (Nat.le_refl _) hJ0 (bchain hb1 (bself (o := .cells #[.int .i64 (kPorts k), .int .i64 0, .int .i64 (kB0 k), .int .i64 (kA1 k), .int .i64 (kB1 k), .int .i64 (kMany k), .bool (kPoint k)] 141)))
  have KH := Lib.hid K
  have hmax : max (kMany k) 0 = kMany k := by omega
  clear K hJ hJ0
  unfold rowV
  gi_wp2_with fail
  gi_loopw [5, 6, 14] (fun _ _ c wr => ∃ n : Nat, (n : Int) ≤ kMany k ∧ c = .int .i64 n ∧ J (prs i (aOf k) (bOf k) n) wr ∧ RowAt k w1.heap.size wr ∧ KeepsE A E n₀ W wr)
    (fun _ _ c _ => 2 - (intOf c).toNat)
  case atStart => exact ⟨0, by omega, rfl, J0, R0, K0⟩
  case round =>
    obtain ⟨n, hn, rfl, hJn, R, Kn⟩ := hrel
    have ck' := Kn.old hk.1 hk.2 ck
    have ci' := Kn.old hi.1 hi.2 ci
    clear ck ci
    by_cases hlt : (n : Int) < kMany k
    · have hn2 : n = 0 ∨ n = 1 := by omega
      obtain ⟨x, hx⟩ : ∃ x, x = aOf k n := ⟨_, rfl⟩
      obtain ⟨y, hy⟩ : ∃ y, y = bOf k n := ⟨_, rfl⟩
      have c1 : wr.cell? ⟨w1.heap.size, 1 + n * 2, none⟩ = some (.int .i64 x) := by
        rcases hn2 with rfl | rfl
        · rw [hx]; exact R.c1
        · rw [hx]; exact R.c3
      have c2 : wr.cell? ⟨w1.heap.size, 1 + n * 2 + 1, none⟩ = some (.int .i64 y) := by
        rcases hn2 with rfl | rfl
        · rw [hy]; exact R.c2
        · rw [hy]; exact R.c4
      have hne : x ≠ y := by
        rcases kCases k with ⟨_, _, m, e0, e1, e2, _⟩ | ⟨_, _, m, e0, e1, e2, _⟩ | ⟨_, _, m, e0, e1, e2, _⟩ | ⟨_, _, _, _, m, _⟩ <;> rcases hn2 with rfl | rfl <;> simp_all [aOf, bOf]
      have PA : x = i → ¬ y = i → prs i (aOf k) (bOf k) (n + 1) = prs i (aOf k) (bOf k) n ++ [(y, (n : Int))] := fun h g => by simp only [prs]; rw [← hx, ← hy, if_pos h, if_neg g]; simp
      have PB : ¬ x = i → y = i → prs i (aOf k) (bOf k) (n + 1) = prs i (aOf k) (bOf k) n ++ [(x, (n : Int))] := fun h g => by simp only [prs]; rw [← hx, ← hy, if_neg h, if_pos g]; simp
      have PC : ¬ x = i → ¬ y = i → prs i (aOf k) (bOf k) (n + 1) = prs i (aOf k) (bOf k) n := fun h g => by simp only [prs]; rw [← hx, ← hy, if_neg h, if_neg g]; simp
      have hlen := prs_length i (aOf k) (bOf k) n
      have hpre : prs i (aOf k) (bOf k) (n + 1) <+: pairs k i := prs_prefix (i := i) (a := aOf k) (b := bOf k) (by omega)
      have hwr : W.heap.size ≤ wr.heap.size := Kn.size
      have liw : Bi < wr.heap.size := by omega
      have lrw : w1.heap.size < wr.heap.size := R.row.lt
      have hnA : ∀ b, n₀ ≤ b → ¬ A b := fun b hb ha => by have := hA b ha; omega
      obtain ⟨Wy, hWy⟩ : ∃ Wy, Wy = wr.alloc (.cells #[.int .i64 x, .int .i64 y] 138) := ⟨_, rfl⟩
      have By : Below wr.heap.size wr Wy := by rw [hWy]; exact bself
      have Jy := hJg _ _ Wy hwr hJn By
      have Ry : RowAt k w1.heap.size Wy := ⟨(By.cell (p := ⟨w1.heap.size, 1, none⟩) lrw).trans R.c1, (By.cell (p := ⟨w1.heap.size, 2, none⟩) lrw).trans R.c2, (By.cell (p := ⟨w1.heap.size, 3, none⟩) lrw).trans R.c3, (By.cell (p := ⟨w1.heap.size, 4, none⟩) lrw).trans R.c4, R.row.keep (By.block _ lrw)⟩
      have Ky : KeepsE A E n₀ W Wy := Kn.trans (.of_below By)
      have ey0 : Wy.cell? ⟨wr.heap.size, 0, none⟩ = some (.int .i64 x) := by rw [hWy]; simp [go_sem]
      have ey1 : Wy.cell? ⟨wr.heap.size, 1, none⟩ = some (.int .i64 y) := by rw [hWy]; simp [go_sem]
      have ery : rowOf Wy wr.heap.size 138 := by rw [hWy]; exact .new _ _ _ _
      have after : ∀ W3, KeepsE A E n₀ Wy W3 → RowAt k w1.heap.size W3 ∧ KeepsE A E n₀ W W3 ∧ W3.cell? ⟨wr.heap.size, 0, none⟩ = some (.int .i64 x) ∧ W3.cell? ⟨wr.heap.size, 1, none⟩ = some (.int .i64 y) ∧ W3.cell? ⟨Bi, 0, none⟩ = some (.int .i64 i) := by
        intro W3 h3
        have b1 := h3.own Ry.row (hnA _ (by omega)) hE1
        have b2 := h3.own ery (hnA _ (by omega)) hE2
        exact ⟨⟨(World.cell?_of_block (w := Wy) (a := ⟨w1.heap.size, 1, none⟩) b1).trans Ry.c1, (World.cell?_of_block (w := Wy) (a := ⟨w1.heap.size, 2, none⟩) b1).trans Ry.c2, (World.cell?_of_block (w := Wy) (a := ⟨w1.heap.size, 3, none⟩) b1).trans Ry.c3, (World.cell?_of_block (w := Wy) (a := ⟨w1.heap.size, 4, none⟩) b1).trans Ry.c4, Ry.row.keep b1⟩,
          Ky.trans h3, (World.cell?_of_block (w := Wy) (a := ⟨wr.heap.size, 0, none⟩) b2).trans ey0, (World.cell?_of_block (w := Wy) (a := ⟨wr.heap.size, 1, none⟩) b2).trans ey1, h3.old hi.1 hi.2 ((By.cell (p := ⟨Bi, 0, none⟩) liw).trans ci')⟩
      have HA := Lib.hid (⟨PA, PB, PC⟩ : _ ∧ _ ∧ _)
      have HR := Lib.hid (⟨Ry, Ky, Jy⟩ : _ ∧ _ ∧ _)
      clear hx hy R0 K0 J0 PA PB PC ey0 ey1 ery Ry Ky Jy By hJn R Kn
      by_cases hxi : x = i
      · have hyi : ¬ y = i := by omega
        have dx : (x == i) = true := by simpa using hxi
        have dy : (y == i) = false := by simpa using hyi
        have hP := Lib.hid (HA.out.1 hxi hyi)
        obtain ⟨fn, tmps, assign, body, hyy, hR⟩ := hY _ (y, (n : Int)) Wy HR.out.2.2 (by omega)
        subst hWy
        clear hxi hyi hne HA HR
        gi_wp2
        refine hR.mono ?_
        rintro e W3 (⟨rfl, hJ3, hk3⟩ | ⟨rfl, hJx3⟩)
        · obtain ⟨R3, K3, d0, d1, di⟩ := after _ hk3
          have H3 := Lib.hid (⟨R3, K3⟩ : _ ∧ _)
          clear R3 K3 hk3 after
          gi_wp2
          refine ⟨fun _ h => (by cases h), ?_⟩
          gi_wp2
          go_roundw
          case rel => exact ⟨n + 1, by omega, by simp, by rw [hP.out]; exact hJ3, H3.out.1, H3.out.2⟩
          case measure => simp [intOf]; omega
        · gi_wp2
          refine bodyPost_ret (results_none rfl _ _ _) rfl ?_
          exact ⟨⟨_, rfl⟩, .inr ⟨_, hP.out ▸ hpre, hJx3⟩⟩
      · have dx : (x == i) = false := by simpa using hxi
        by_cases hyi : y = i
        · have dy : (y == i) = true := by simpa using hyi
          have hP := Lib.hid (HA.out.2.1 hxi hyi)
          obtain ⟨fn, tmps, assign, body, hyy, hR⟩ := hY _ (x, (n : Int)) Wy HR.out.2.2 (by omega)
          subst hWy
          clear hxi hyi hne HA HR
          gi_wp2
          refine ⟨fun _ h => (by cases h), ?_⟩
          gi_wp2
          refine hR.mono ?_
          rintro e W3 (⟨rfl, hJ3, hk3⟩ | ⟨rfl, hJx3⟩)
          · obtain ⟨R3, K3, d0, d1, di⟩ := after _ hk3
            have H3 := Lib.hid (⟨R3, K3⟩ : _ ∧ _)
            clear R3 K3 hk3 after
            gi_wp2
            go_roundw
            case rel => exact ⟨n + 1, by omega, by simp, by rw [hP.out]; exact hJ3, H3.out.1, H3.out.2⟩
            case measure => simp [intOf]; omega
          · gi_wp2
            refine bodyPost_ret (results_none rfl _ _ _) rfl ?_
            exact ⟨⟨_, rfl⟩, .inr ⟨_, hP.out ▸ hpre, hJx3⟩⟩
        · have dy : (y == i) = false := by simpa using hyi
          have hP := Lib.hid (HA.out.2.2 hxi hyi)
          subst hWy
          clear hxi hyi hne HA after
          gi_wp2
          refine ⟨fun _ h => (by cases h), ?_⟩
          gi_wp2
          go_roundw
          case rel => exact ⟨n + 1, by omega, by simp, by rw [hP.out]; exact HR.out.2.2, HR.out.1, HR.out.2.1⟩
          case measure => simp [intOf]; omega
    · obtain rfl : n = (kMany k).toNat := by omega
      have hlt' : ¬ ((((kMany k).toNat : Nat) : Int) < kMany k) := hlt
      gi_wp2
      go_end0
      exact ⟨⟨_, rfl⟩, .inl hJn⟩
end Go.Proofs.YtpnnbihofoomeaaDoor

/-
  Package port: Way, by the iterator.
-/
namespace Go.Proofs.YtpnnbihofoomeaaDoor
open Go.RowKit Go.Shelf
attribute [local go_sem] Oper.semAt_some

theorem from_stops (Bk Bi n₀ : Nat) (k i : Int) (h0 : 0 ≤ k) (h1 : k ≤ 255) (A : Nat → Prop) (E : TypeId → Prop) (w : World) (hn : n₀ = w.heap.size) (hA : ∀ b, A b → b < n₀) (hk : Bk < n₀ ∧ ¬ A Bk) (hi : Bi < n₀ ∧ ¬ A Bi)
    (hE1 : ¬ E 141) (hE2 : ¬ E 138) (ck : w.cell? ⟨Bk, 0, none⟩ = some (.int .u8 k)) (ci : w.cell? ⟨Bi, 0, none⟩ = some (.int .i64 i)) (K : Kinds w) :
    SeqStopsK Fence.wide 4 Tryd.prog 99 #[.pointer (some ⟨Bk, 0, none⟩), .pointer (some ⟨Bi, 0, none⟩)] (fun x : Int × Int => #[.int .i64 x.1, .int .i64 x.2]) (KeepsE A E n₀) (fun ys => ys = pairs k i) (fun pre => pre <+: pairs k i) 4 w := by
  subst hn
  intro l J Jx W hW hJ _ hY hJ0
  exact from1_in l Bk Bi w.heap.size k i h0 h1 A E hA hk hi hE1 hE2 J Jx W hW.size hJ hY ((hW.cell (p := ⟨Bk, 0, none⟩) hk.1).trans ck) ((hW.cell (p := ⟨Bi, 0, none⟩) hi.1).trans ci) (K.below hW) hJ0

/-- Which way goes. -/
def wayF (k i o : Int) : Option (Int × Int) := (pairs k i).find? (fun x => x.1 == o)
def wayN (k i o : Int) : Int := (wayF k i o).elim 0 (·.2)
def wayB (k i o : Int) : Bool := (wayF k i o).isSome
theorem way_none {k i o : Int} (h : ∀ x, x ∈ pairs k i → ¬ x.1 = o) : wayN k i o = 0 ∧ wayB k i o = false := by
  have e : wayF k i o = none := by rw [wayF, List.find?_eq_none]; intro x hx; simpa using h x hx
  simp [wayN, wayB, e]
theorem way_some {k i o : Int} {p : List (Int × Int)} {x : Int × Int} (hp : p ++ [x] <+: pairs k i) (h : ∀ y, y ∈ p → ¬ y.1 = o) (hx : x.1 = o) : wayN k i o = x.2 ∧ wayB k i o = true := by
  obtain ⟨r, hr⟩ := hp
  have e : wayF k i o = some x := by
    rw [wayF, ← hr, List.append_assoc, List.find?_append, List.find?_eq_none.2 (by intro y hy; simpa using h y hy)]
    simp [hx]
  simp [wayN, wayB, e]

/-- What Way's cells hold: while none is found; when one is. -/
def WayI (n : Nat) (o : Int) (pre : List (Int × Int)) (W : World) : Prop :=
  (∀ x, x ∈ pre → ¬ x.1 = o) ∧ W.cell? ⟨n, 0, none⟩ = some (.int .i64 o) ∧ W.cell? ⟨n + 1, 0, none⟩ = some (.int .i64 0) ∧ W.cell? ⟨n + 1 + 1, 0, none⟩ = some (.bool false) ∧ W.frozen? ⟨n + 1, 0, none⟩ = false ∧ W.frozen? ⟨n + 1 + 1, 0, none⟩ = false
def WayX (n : Nat) (o : Int) (c : Code) (pre : List (Int × Int)) (W : World) : Prop :=
  c = .goto 0 ∧ ∃ p x, pre = p ++ [x] ∧ (∀ y, y ∈ p → ¬ y.1 = o) ∧ x.1 = o ∧ W.cell? ⟨n + 1, 0, none⟩ = some (.int .i64 x.2) ∧ W.cell? ⟨n + 1 + 1, 0, none⟩ = some (.bool true) ∧ W.frozen? ⟨n + 1, 0, none⟩ = false ∧ W.frozen? ⟨n + 1 + 1, 0, none⟩ = false
theorem WayI.same {n : Nat} {o : Int} {pre : List (Int × Int)} {W W' : World} (h : WayI n o pre W) (k : SameCells W W') : WayI n o pre W' :=
  ⟨h.1, k.cell h.2.1, k.cell h.2.2.1, k.cell h.2.2.2.1, (k.frozen h.2.2.1).trans h.2.2.2.2.1, (k.frozen h.2.2.2.1).trans h.2.2.2.2.2⟩
theorem WayX.same {n : Nat} {o : Int} {c : Code} {pre : List (Int × Int)} {W W' : World} (h : WayX n o c pre W) (k : SameCells W W') : WayX n o c pre W' := by
  obtain ⟨hc, p, x, h1, h2, h3, h4, h5, h6, h7⟩ := h
  exact ⟨hc, p, x, h1, h2, h3, k.cell h4, k.cell h5, (k.frozen h4).trans h6, (k.frozen h5).trans h7⟩

set_option maxRecDepth 100000 in
set_option maxHeartbeats 2000000 in
theorem way_any (k i o : Int) (h0 : 0 ≤ k) (h1 : k ≤ 255) (w : World) (K : Kinds w) :
    Calls Tryd.prog 83 #[.int .u8 k, .int .i64 i, .int .i64 o] w fun e w' => e = .returned (.tuple #[.int .i64 (wayN k i o), .bool (wayB k i o)]) ∧ Below w.heap.size w w' := by
  refine calls_marked w.heap.size Tryd.func83 rfl ?_
  simp only [Tryd.ntmps83, List.size_toArray, List.length_cons, List.length_nil, Nat.reduceAdd, Nat.reduceSub, Array.replicate_succ, Array.replicate_zero, List.push_toArray, List.append_toArray, List.nil_append, List.cons_append]
  have KH := Lib.hid K
  clear K
  go_wp2_with fail
  refine wp_scope_fwd 0 rfl ?_
  go_wp2_with fail
  refine (from_any _ _ _).mono ?_
  rintro e w1 ⟨rfl, rfl⟩
  go_wp2_with fail
  have HB : Below w.heap.size w (((((w.alloc (.cells #[.int .i64 o] 3)).alloc (.cells #[.int .i64 0] 3)).alloc (.cells #[.bool false] 4)).alloc (.cells #[.int .u8 k] 5)).alloc (.cells #[.int .i64 i] 3)) :=
    bchain (bchain (bchain (bchain bself bself) bself) bself) bself
  refine wp_range_e (gf := 99) (lb := #[.pointer (some ⟨w.heap.size + 1 + 1 + 1, 0, none⟩), .pointer (some ⟨w.heap.size + 1 + 1 + 1 + 1, 0, none⟩)]) rfl (enters_of Tryd.func99 (by kernel_rfl) rfl)
    (fun b => b = w.heap.size + 1 ∨ b = w.heap.size + 1 + 1) (fun _ => False) (by rintro b (rfl | rfl) <;> simp <;> try omega)
    (from_stops (w.heap.size + 1 + 1 + 1) (w.heap.size + 1 + 1 + 1 + 1) _ k i h0 h1 _ _ _ rfl (by rintro b (rfl | rfl) <;> simp <;> try omega) ⟨by simp; try omega, by rintro (h | h) <;> omega⟩ ⟨by simp; try omega, by rintro (h | h) <;> omega⟩ (fun h => h) (fun h => h) (by simp [go_sem]) (by simp [go_sem]) (KH.out.below HB))
    (fun _ => rfl) (WayI w.heap.size o) (WayX w.heap.size o) (fun _ _ _ h k _ => h.same k) (fun _ _ _ _ h k _ => h.same k) ⟨fun _ h => (by cases h), by simp [go_sem], by simp [go_sem], by simp [go_sem], by simp [go_sem], by simp [go_sem]⟩
    (fun x => { tmps := #[.int .u8 k, .int .i64 i, .int .i64 o, undef, undef, .pointer (some ⟨w.heap.size, 0, none⟩), .pointer (some ⟨w.heap.size + 1, 0, none⟩), .pointer (some ⟨w.heap.size + 1 + 1, 0, none⟩), .int .i64 x.1, .int .i64 x.2, .int .u8 k, .int .i64 i, .func (.func 99) #[] #[.pointer (some ⟨w.heap.size + 1 + 1 + 1, 0, none⟩), .pointer (some ⟨w.heap.size + 1 + 1 + 1 + 1, 0, none⟩)], .int .i64 x.1, .int .i64 x.2, undef, undef, undef, undef, undef, undef], defers := [] })
    ?assign ?body ?done ?stop
  case assign =>
    intro l x W K hK
    gi_wp2
    exact hK
  case body =>
    rintro l pre x W hw ⟨hp, c0, c1, c2, f1, f2⟩ _
    by_cases hx : x.1 = o
    · have hd : (x.1 == o) = true := by simpa using hx
      have HX := Lib.hid hx
      have HP := Lib.hid hp
      clear hx hp
      gi_wp2
      refine wpIn_goto ?_
      exact ⟨((WritesE.refl _ _ _ W).setCell (p := ⟨w.heap.size + 1, 0, none⟩) (.inl rfl) _).setCell (p := ⟨w.heap.size + 1 + 1, 0, none⟩) (.inr rfl) _,
        rfl, pre, x, rfl, HP.out, HX.out, by simp [go_sem, c1], by simp [go_sem, c2], by simp [World.frozen?_setCell, f1], by simp [World.frozen?_setCell, f2]⟩
    · have hd : (x.1 == o) = false := by simpa using hx
      have HX := Lib.hid hx
      have HP := Lib.hid hp
      clear hx hp
      gi_wp2
      refine ⟨WritesE.refl _ _ _ W, ?_, c0, c1, c2, f1, f2⟩
      intro y hy
      rcases List.mem_append.1 hy with hy | hy
      · exact HP.out y hy
      · rw [List.mem_singleton.1 hy]; exact HX.out
  case done =>
    rintro D ys W hD rfl hw ⟨hp, c0, c1, c2, f1, f2⟩ hK
    have hB := hw.below HB (by simp; omega) (by simp; omega) (by rintro b (rfl | rfl) <;> omega)
    have HN := Lib.hid (way_none hp)
    clear hp
    simp at hD
    dsimp only
    go_wp2
    refine wp_label ?_
    go_wp2
    go_region
    go_wp2
    rw [Exit.fwd_ret]
    refine ⟨⟨[D], ⟨rfl, by simp, ?held⟩⟩, fun w' hb hk => ⟨_, ?res, rfl, ?bel⟩⟩
    case held =>
      rintro D' h
      simp only [List.mem_cons, List.not_mem_nil, or_false] at h
      subst h
      exact ⟨by omega, (Below.heap_setCell _ _ _ _ (by dsimp only; omega)).trans ((Below.heap_setCell _ _ _ _ (by dsimp only; omega)).trans hK)⟩
    case res =>
      rw [HN.out.1, HN.out.2]
      have e1 := cells_kept hk (b := w.heap.size + 1) (o := 0) (v := .int .i64 0) (by simp [go_sem, c1])
      have e2 := cells_kept hk (b := w.heap.size + 1 + 1) (o := 0) (v := .bool false) (by simp [go_sem, c2])
      simp [results, Tryd.results83, go_sem, e1, e2]
    case bel =>
      exact (((hB.setCell (p := ⟨w.heap.size + 1, 0, none⟩) (by dsimp only; omega) _).setCell (p := ⟨w.heap.size + 1 + 1, 0, none⟩) (by dsimp only; omega) _).drew).trans hb
  case stop =>
    rintro D c pre W hD hS hw ⟨rfl, p, x, rfl, h1, h2, h3, h4, h5, h6⟩ hK
    have hB := hw.below HB (by simp; omega) (by simp; omega) (by rintro b (rfl | rfl) <;> omega)
    have HN := Lib.hid (way_some hS h1 h2)
    clear h1 h2 hS
    simp at hD
    refine wp_goto ?_
    refine ⟨rfl, ?_⟩
    dsimp only
    go_wp2
    go_region
    go_wp2
    rw [Exit.noGoto_ret]
    refine ⟨⟨[D], ⟨rfl, by simp, ?held⟩⟩, fun w' hb hk => ⟨_, ?res, rfl, ?bel⟩⟩
    case held =>
      rintro D' h
      simp only [List.mem_cons, List.not_mem_nil, or_false] at h
      subst h
      exact ⟨by omega, (Below.heap_setCell _ _ _ _ (by dsimp only; omega)).trans ((Below.heap_setCell _ _ _ _ (by dsimp only; omega)).trans hK)⟩
    case res =>
      rw [HN.out.1, HN.out.2]
      have e1 := cells_kept hk (b := w.heap.size + 1) (o := 0) (v := .int .i64 x.2) (by simp [go_sem, h3])
      have e2 := cells_kept hk (b := w.heap.size + 1 + 1) (o := 0) (v := .bool true) (by simp [go_sem, h4])
      simp [results, Tryd.results83, go_sem, e1, e2]
    case bel =>
      exact (((hB.setCell (p := ⟨w.heap.size + 1, 0, none⟩) (by dsimp only; omega) _).setCell (p := ⟨w.heap.size + 1 + 1, 0, none⟩) (by dsimp only; omega) _).drew).trans hb
end Go.Proofs.YtpnnbihofoomeaaDoor

/-
  Package port: Right.
-/
namespace Go.Proofs.YtpnnbihofoomeaaDoor
open Go.RowKit Go.Shelf

/-- May a section be? Its ports, by number; its classes. -/
def portFine (k : Int) (S P : Nat → Int) (i : Nat) : Prop := if (i : Int) < kPorts k then mayB (S i) (P i) = true else S i = -1 ∧ P i = 0
def classFine (k : Int) (C : Nat → Int) (i : Nat) : Prop := 0 ≤ C i ∧ C i ≤ 3 ∧ (0 < C i → (i : Int) < kMany k)
def rightP (k : Int) (S P C : Nat → Int) : Prop := kPorts k ≠ 0 ∧ (∀ i, i < 4 → portFine k S P i) ∧ (∀ i, i < 2 → classFine k C i)
open Classical in
noncomputable def rightB (k : Int) (S P C : Nat → Int) : Bool := decide (rightP k S P C)
open Classical in
theorem rightB_true {k : Int} {S P C : Nat → Int} (h : rightP k S P C) : rightB k S P C = true := by unfold rightB; exact decide_eq_true h
open Classical in
theorem rightB_false {k : Int} {S P C : Nat → Int} (h : ¬ rightP k S P C) : rightB k S P C = false := by unfold rightB; exact decide_eq_false h
def secV (k : Int) (S P C : Nat → Int) : Value :=
  .agg #[.int .u8 k, .int .i64 (S 0), .int .i64 (P 0), .int .i64 (S 1), .int .i64 (P 1), .int .i64 (S 2), .int .i64 (P 2), .int .i64 (S 3), .int .i64 (P 3), .int .i64 (C 0), .int .i64 (C 1)]
section
variable (x0 x1 x2 x3 x4 x5 x6 x7 : Value) (w : World)
theorem join_at0 : (Instr.index 66 (.agg #[x0, x1, x2, x3, x4, x5, x6, x7]) (.int .i64 0)).run Tryd.prog w = .ok (.agg #[x0, x1]) w := by kernel_rfl
theorem join_at1 : (Instr.index 66 (.agg #[x0, x1, x2, x3, x4, x5, x6, x7]) (.int .i64 1)).run Tryd.prog w = .ok (.agg #[x2, x3]) w := by kernel_rfl
theorem join_at2 : (Instr.index 66 (.agg #[x0, x1, x2, x3, x4, x5, x6, x7]) (.int .i64 2)).run Tryd.prog w = .ok (.agg #[x4, x5]) w := by kernel_rfl
theorem join_at3 : (Instr.index 66 (.agg #[x0, x1, x2, x3, x4, x5, x6, x7]) (.int .i64 3)).run Tryd.prog w = .ok (.agg #[x6, x7]) w := by kernel_rfl
theorem class_at0 : (Instr.index 67 (.agg #[x0, x1]) (.int .i64 0)).run Tryd.prog w = .ok x0 w := by kernel_rfl
theorem class_at1 : (Instr.index 67 (.agg #[x0, x1]) (.int .i64 1)).run Tryd.prog w = .ok x1 w := by kernel_rfl
end
attribute [local go_sem] join_at0 join_at1 join_at2 join_at3 class_at0 class_at1

set_option maxRecDepth 100000 in
set_option maxHeartbeats 4000000 in
theorem right_any (k : Int) (S P C : Nat → Int) (h0 : 0 ≤ k) (h1 : k ≤ 255) (w : World) (K : Kinds w) :
    Calls Tryd.prog 44 #[secV k S P C] w fun e w' => e = .returned (.bool (rightB k S P C)) ∧ Below w.heap.size w w' := by
  obtain ⟨b, hb⟩ : ∃ b, b = rightB k S P C := ⟨_, rfl⟩
  have bt : rightP k S P C → b = true := fun h => hb.trans (rightB_true h)
  have bf : ¬ rightP k S P C → b = false := fun h => hb.trans (rightB_false h)
  rw [← hb]
  clear hb
  have ho := fun w1 (K1 : Kinds w1) => of_any k h0 h1 w1 K1
  unfold rowV at ho
  obtain ⟨np, hnp⟩ : ∃ np, np = kPorts k := ⟨_, rfl⟩
  obtain ⟨nm, hnm⟩ : ∃ nm, nm = kMany k := ⟨_, rfl⟩
  rw [← hnp, ← hnm] at ho
  have HN := Lib.hid (⟨hnp, hnm⟩ : _ ∧ _)
  have HO := Lib.hid ho
  have KH := Lib.hid K
  have HT := Lib.hid bt
  have HF := Lib.hid bf
  clear hnp hnm ho K bt bf
  unfold secV
  go_enter Tryd.func44, Tryd.ntmps44
  go_wp2_with fail
  (with_reducible refine (HO.out _ (KH.out.below bself)).mono ?_)
  rintro e w1 ⟨rfl, hb1⟩
  have hB1 := bnew hb1
  obtain ⟨hc, hf, hz⟩ := bcell hb1
  have lz : w.heap.size < w1.heap.size := hz _ (by simp)
  by_cases hnp : np = 0
  · have e : b = false := HF.out (fun h => h.1 (HN.out.1 ▸ hnp))
    subst e
    subst hnp
    go_wp2
    go_ret
    exact ⟨rfl, bchain hB1 bself⟩
  · have hd : (np == 0) = false := by simpa using hnp
    go_wp2_with fail
    obtain ⟨R, hR⟩ : ∃ R, R = w1.alloc (.cells #[.int .i64 np, .int .i64 0, .int .i64 (kB0 k), .int .i64 (kA1 k), .int .i64 (kB1 k), .int .i64 nm, .bool (kPoint k)] 141) := ⟨_, rfl⟩
    have hBR : Below w.heap.size w R := by rw [hR]; exact bchain hB1 bself
    have hsR : R.heap.size = w1.heap.size + 1 := by rw [hR]; simp
    have r0 : R.cell? ⟨w1.heap.size, 0, none⟩ = some (.int .i64 np) := by rw [hR]; simp [go_sem]
    have r5 : R.cell? ⟨w1.heap.size, 5, none⟩ = some (.int .i64 nm) := by rw [hR]; simp [go_sem]
    have s9 : R.cell? ⟨w.heap.size, 9, none⟩ = some (.int .i64 (C 0)) := by rw [hR]; simp [go_sem, hc, lz]
    have s10 : R.cell? ⟨w.heap.size, 10, none⟩ = some (.int .i64 (C 1)) := by rw [hR]; simp [go_sem, hc, lz]
    have KR : Kinds R := KH.out.below hBR
    have q0 := KR.pnone 0 _ rfl
    have q1 := KR.pnone 1 _ rfl
    have lq := KR.lt0
    have HKR := Lib.hid KR
    rw [← hR]
    clear hR hb1 hB1 hc hf hz KR
    go_loopw [2, 4, 5, 16] (fun r _ _ c wr => ∃ n : Nat, n ≤ 4 ∧ c = .int .i64 n ∧ r = .bool false ∧ (∀ j, j < n → portFine k S P j) ∧ Below R.heap.size R wr)
      (fun _ _ _ c _ => 4 - (intOf c).toNat)
    case atStart => exact ⟨0, by omega, rfl, rfl, fun j hj => by omega, Below.refl _ _⟩
    case round =>
      obtain ⟨n, hn, rfl, rfl, hj, hB⟩ := hrel
      have HJ := Lib.hid hj
      clear hj
      have z0 := (hB.cell (p := ⟨w1.heap.size, 0, none⟩) (by dsimp only; omega)).trans r0
      have z5 := (hB.cell (p := ⟨w1.heap.size, 5, none⟩) (by dsimp only; omega)).trans r5
      have z9 := (hB.cell (p := ⟨w.heap.size, 9, none⟩) (by dsimp only; omega)).trans s9
      have z10 := (hB.cell (p := ⟨w.heap.size, 10, none⟩) (by dsimp only; omega)).trans s10
      have y0 := (hB.cell (p := ⟨0, 0, none⟩) lq).trans q0
      have y1 := (hB.cell (p := ⟨0, 1, none⟩) lq).trans q1
      have lw0 : 0 < wr.heap.size := Nat.lt_of_lt_of_le lq hB.size
      have lw1 : w1.heap.size < wr.heap.size := by have := hB.size; omega
      have lw2 : w.heap.size < wr.heap.size := by omega
      clear r0 r5 s9 s10 q0 q1
      by_cases h4 : n = 4
      · subst h4
        go_wp2_with fail
        go_loop [2, 6, 7, 43] (fun r _ _ c => ∃ n : Nat, n ≤ 2 ∧ c = .int .i64 n ∧ r = .bool false ∧ (∀ j, j < n → classFine k C j))
          (fun _ _ _ c => 2 - (intOf c).toNat)
        case atStart => exact ⟨0, by omega, rfl, rfl, fun j hj => by omega⟩
        case round =>
          obtain ⟨n, hn, rfl, rfl, hj⟩ := hrel
          have HC := Lib.hid hj
          clear hj
          by_cases h2 : n = 2
          · subst h2
            have e : b = true := HT.out ⟨by rw [← HN.out.1]; exact hnp, HJ.out, HC.out⟩
            subst e
            go_wp2
            go_ret
            exact ⟨rfl, bchain hBR hB⟩
          · have hn2 : n = 0 ∨ n = 1 := by omega
            clear h2
            rcases hn2 with rfl | rfl
            · by_cases hf : 0 ≤ C 0 ∧ C 0 ≤ 3 ∧ (0 < C 0 → (0 : Int) < nm)
              · have HF2 : Hid (classFine k C 0) := Lib.hid (by unfold classFine; rw [← HN.out.2]; exact hf)
                go_wp2
                all_goals
                  first
                    | (exfalso; omega)
                    | (go_roundw
                       case rel =>
                         refine ⟨1, by omega, rfl, rfl, fun j hj => ?_⟩
                         by_cases hjn : j < 0
                         · exact HC.out j hjn
                         · obtain rfl : j = 0 := by omega
                           exact HF2.out
                       case measure => simp [intOf])
              · have e : b = false := HF.out (fun h => by
                  have h' := h.2.2 0 (by omega)
                  unfold classFine at h'
                  rw [← HN.out.2] at h'
                  exact hf h')
                subst e
                go_wp2
                all_goals
                  first
                    | (exfalso; omega)
                    | (go_ret
                       exact ⟨rfl, bchain hBR hB⟩)
            · by_cases hf : 0 ≤ C 1 ∧ C 1 ≤ 3 ∧ (0 < C 1 → (1 : Int) < nm)
              · have HF2 : Hid (classFine k C 1) := Lib.hid (by unfold classFine; rw [← HN.out.2]; exact hf)
                go_wp2
                all_goals
                  first
                    | (exfalso; omega)
                    | (go_roundw
                       case rel =>
                         refine ⟨2, by omega, rfl, rfl, fun j hj => ?_⟩
                         by_cases hjn : j < 1
                         · exact HC.out j hjn
                         · obtain rfl : j = 1 := by omega
                           exact HF2.out
                       case measure => simp [intOf])
              · have e : b = false := HF.out (fun h => by
                  have h' := h.2.2 1 (by omega)
                  unfold classFine at h'
                  rw [← HN.out.2] at h'
                  exact hf h')
                subst e
                go_wp2
                all_goals
                  first
                    | (exfalso; omega)
                    | (go_ret
                       exact ⟨rfl, bchain hBR hB⟩)
      · have hn4 : n = 0 ∨ n = 1 ∨ n = 2 ∨ n = 3 := by omega
        clear h4
        rcases hn4 with rfl | rfl | rfl | rfl
        · by_cases hp : (0 : Int) < np
          · have dp : decide ((0 : Int) < np) = true := decide_eq_true hp
            have dq : decide (np ≤ (0 : Int)) = false := decide_eq_false (by omega)
            have hp2 : ¬ np ≤ (0 : Int) := by omega
            go_wp2_with fail
            (with_reducible refine (may_any (S 0) (P 0) _ (HKR.out.below (bchain hB bself))).mono ?_)
            rintro e w2 ⟨rfl, hb2⟩
            obtain ⟨hc2, hf2, hz2⟩ := bcell hb2
            have hB2 := bchain hB (bnew hb2)
            obtain ⟨m, hm⟩ : ∃ m, m = mayB (S 0) (P 0) := ⟨_, rfl⟩
            rw [← hm]
            have HM := Lib.hid hm
            clear hm hb2
            cases m with
            | true =>
              go_wp2
              go_roundw
              case rel =>
                refine ⟨1, by omega, rfl, rfl, fun j hj => ?_, hB2⟩
                by_cases hjn : j < 0
                · exact HJ.out j hjn
                · obtain rfl : j = 0 := by omega
                  unfold portFine
                  rw [if_pos (by rw [← HN.out.1]; exact hp)]
                  exact HM.out.symm
              case measure => simp [intOf]
            | false =>
              have e : b = false := HF.out (fun h => by
                have h' := h.2.1 0 (by omega)
                unfold portFine at h'
                rw [if_pos (by rw [← HN.out.1]; exact hp), ← HM.out] at h'
                cases h')
              subst e
              go_wp2
              go_ret
              exact ⟨rfl, bchain hBR hB2⟩
          · have dp : decide ((0 : Int) < np) = false := decide_eq_false hp
            have dq : decide (np ≤ (0 : Int)) = true := decide_eq_true (by omega)
            have hp2 : np ≤ (0 : Int) := by omega
            by_cases hq : S 0 = -1 ∧ P 0 = 0
            · obtain ⟨q1, q2⟩ := hq
              have QQ := Lib.hid (⟨q1, q2⟩ : _ ∧ _)
              go_wp2
              go_roundw
              case rel =>
                refine ⟨1, by omega, rfl, rfl, fun j hj => ?_, bchain hB bself⟩
                by_cases hjn : j < 0
                · exact HJ.out j hjn
                · obtain rfl : j = 0 := by omega
                  unfold portFine
                  rw [if_neg (by rw [← HN.out.1]; exact hp)]
                  exact QQ.out
              case measure => simp [intOf]
            · have e : b = false := HF.out (fun h => by
                have h' := h.2.1 0 (by omega)
                unfold portFine at h'
                rw [if_neg (by rw [← HN.out.1]; exact hp)] at h'
                exact hq h')
              subst e
              go_wp2
              all_goals
                first
                  | (exfalso; omega)
                  | (go_ret
                     exact ⟨rfl, bchain hBR (bchain hB bself)⟩)
        · by_cases hp : (1 : Int) < np
          · have dp : decide ((1 : Int) < np) = true := decide_eq_true hp
            have dq : decide (np ≤ (1 : Int)) = false := decide_eq_false (by omega)
            have hp2 : ¬ np ≤ (1 : Int) := by omega
            go_wp2_with fail
            (with_reducible refine (may_any (S 1) (P 1) _ (HKR.out.below (bchain hB bself))).mono ?_)
            rintro e w2 ⟨rfl, hb2⟩
            obtain ⟨hc2, hf2, hz2⟩ := bcell hb2
            have hB2 := bchain hB (bnew hb2)
            obtain ⟨m, hm⟩ : ∃ m, m = mayB (S 1) (P 1) := ⟨_, rfl⟩
            rw [← hm]
            have HM := Lib.hid hm
            clear hm hb2
            cases m with
            | true =>
              go_wp2
              go_roundw
              case rel =>
                refine ⟨2, by omega, rfl, rfl, fun j hj => ?_, hB2⟩
                by_cases hjn : j < 1
                · exact HJ.out j hjn
                · obtain rfl : j = 1 := by omega
                  unfold portFine
                  rw [if_pos (by rw [← HN.out.1]; exact hp)]
                  exact HM.out.symm
              case measure => simp [intOf]
            | false =>
              have e : b = false := HF.out (fun h => by
                have h' := h.2.1 1 (by omega)
                unfold portFine at h'
                rw [if_pos (by rw [← HN.out.1]; exact hp), ← HM.out] at h'
                cases h')
              subst e
              go_wp2
              go_ret
              exact ⟨rfl, bchain hBR hB2⟩
          · have dp : decide ((1 : Int) < np) = false := decide_eq_false hp
            have dq : decide (np ≤ (1 : Int)) = true := decide_eq_true (by omega)
            have hp2 : np ≤ (1 : Int) := by omega
            by_cases hq : S 1 = -1 ∧ P 1 = 0
            · obtain ⟨q1, q2⟩ := hq
              have QQ := Lib.hid (⟨q1, q2⟩ : _ ∧ _)
              go_wp2
              go_roundw
              case rel =>
                refine ⟨2, by omega, rfl, rfl, fun j hj => ?_, bchain hB bself⟩
                by_cases hjn : j < 1
                · exact HJ.out j hjn
                · obtain rfl : j = 1 := by omega
                  unfold portFine
                  rw [if_neg (by rw [← HN.out.1]; exact hp)]
                  exact QQ.out
              case measure => simp [intOf]
            · have e : b = false := HF.out (fun h => by
                have h' := h.2.1 1 (by omega)
                unfold portFine at h'
                rw [if_neg (by rw [← HN.out.1]; exact hp)] at h'
                exact hq h')
              subst e
              go_wp2
              all_goals
                first
                  | (exfalso; omega)
                  | (go_ret
                     exact ⟨rfl, bchain hBR (bchain hB bself)⟩)
        · by_cases hp : (2 : Int) < np
          · have dp : decide ((2 : Int) < np) = true := decide_eq_true hp
            have dq : decide (np ≤ (2 : Int)) = false := decide_eq_false (by omega)
            have hp2 : ¬ np ≤ (2 : Int) := by omega
            go_wp2_with fail
            (with_reducible refine (may_any (S 2) (P 2) _ (HKR.out.below (bchain hB bself))).mono ?_)
            rintro e w2 ⟨rfl, hb2⟩
            obtain ⟨hc2, hf2, hz2⟩ := bcell hb2
            have hB2 := bchain hB (bnew hb2)
            obtain ⟨m, hm⟩ : ∃ m, m = mayB (S 2) (P 2) := ⟨_, rfl⟩
            rw [← hm]
            have HM := Lib.hid hm
            clear hm hb2
            cases m with
            | true =>
              go_wp2
              go_roundw
              case rel =>
                refine ⟨3, by omega, rfl, rfl, fun j hj => ?_, hB2⟩
                by_cases hjn : j < 2
                · exact HJ.out j hjn
                · obtain rfl : j = 2 := by omega
                  unfold portFine
                  rw [if_pos (by rw [← HN.out.1]; exact hp)]
                  exact HM.out.symm
              case measure => simp [intOf]
            | false =>
              have e : b = false := HF.out (fun h => by
                have h' := h.2.1 2 (by omega)
                unfold portFine at h'
                rw [if_pos (by rw [← HN.out.1]; exact hp), ← HM.out] at h'
                cases h')
              subst e
              go_wp2
              go_ret
              exact ⟨rfl, bchain hBR hB2⟩
          · have dp : decide ((2 : Int) < np) = false := decide_eq_false hp
            have dq : decide (np ≤ (2 : Int)) = true := decide_eq_true (by omega)
            have hp2 : np ≤ (2 : Int) := by omega
            by_cases hq : S 2 = -1 ∧ P 2 = 0
            · obtain ⟨q1, q2⟩ := hq
              have QQ := Lib.hid (⟨q1, q2⟩ : _ ∧ _)
              go_wp2
              go_roundw
              case rel =>
                refine ⟨3, by omega, rfl, rfl, fun j hj => ?_, bchain hB bself⟩
                by_cases hjn : j < 2
                · exact HJ.out j hjn
                · obtain rfl : j = 2 := by omega
                  unfold portFine
                  rw [if_neg (by rw [← HN.out.1]; exact hp)]
                  exact QQ.out
              case measure => simp [intOf]
            · have e : b = false := HF.out (fun h => by
                have h' := h.2.1 2 (by omega)
                unfold portFine at h'
                rw [if_neg (by rw [← HN.out.1]; exact hp)] at h'
                exact hq h')
              subst e
              go_wp2
              all_goals
                first
                  | (exfalso; omega)
                  | (go_ret
                     exact ⟨rfl, bchain hBR (bchain hB bself)⟩)
        · by_cases hp : (3 : Int) < np
          · have dp : decide ((3 : Int) < np) = true := decide_eq_true hp
            have dq : decide (np ≤ (3 : Int)) = false := decide_eq_false (by omega)
            have hp2 : ¬ np ≤ (3 : Int) := by omega
            go_wp2_with fail
            (with_reducible refine (may_any (S 3) (P 3) _ (HKR.out.below (bchain hB bself))).mono ?_)
            rintro e w2 ⟨rfl, hb2⟩
            obtain ⟨hc2, hf2, hz2⟩ := bcell hb2
            have hB2 := bchain hB (bnew hb2)
            obtain ⟨m, hm⟩ : ∃ m, m = mayB (S 3) (P 3) := ⟨_, rfl⟩
            rw [← hm]
            have HM := Lib.hid hm
            clear hm hb2
            cases m with
            | true =>
              go_wp2
              go_roundw
              case rel =>
                refine ⟨4, by omega, rfl, rfl, fun j hj => ?_, hB2⟩
                by_cases hjn : j < 3
                · exact HJ.out j hjn
                · obtain rfl : j = 3 := by omega
                  unfold portFine
                  rw [if_pos (by rw [← HN.out.1]; exact hp)]
                  exact HM.out.symm
              case measure => simp [intOf]
            | false =>
              have e : b = false := HF.out (fun h => by
                have h' := h.2.1 3 (by omega)
                unfold portFine at h'
                rw [if_pos (by rw [← HN.out.1]; exact hp), ← HM.out] at h'
                cases h')
              subst e
              go_wp2
              go_ret
              exact ⟨rfl, bchain hBR hB2⟩
          · have dp : decide ((3 : Int) < np) = false := decide_eq_false hp
            have dq : decide (np ≤ (3 : Int)) = true := decide_eq_true (by omega)
            have hp2 : np ≤ (3 : Int) := by omega
            by_cases hq : S 3 = -1 ∧ P 3 = 0
            · obtain ⟨q1, q2⟩ := hq
              have QQ := Lib.hid (⟨q1, q2⟩ : _ ∧ _)
              go_wp2
              go_roundw
              case rel =>
                refine ⟨4, by omega, rfl, rfl, fun j hj => ?_, bchain hB bself⟩
                by_cases hjn : j < 3
                · exact HJ.out j hjn
                · obtain rfl : j = 3 := by omega
                  unfold portFine
                  rw [if_neg (by rw [← HN.out.1]; exact hp)]
                  exact QQ.out
              case measure => simp [intOf]
            · have e : b = false := HF.out (fun h => by
                have h' := h.2.1 3 (by omega)
                unfold portFine at h'
                rw [if_neg (by rw [← HN.out.1]; exact hp)] at h'
                exact hq h')
              subst e
              go_wp2
              all_goals
                first
                  | (exfalso; omega)
                  | (go_ret
                     exact ⟨rfl, bchain hBR (bchain hB bself)⟩)
end Go.Proofs.YtpnnbihofoomeaaDoor

/-
  Which way goes, in plain words: the same both ways about.
-/
namespace Go.Proofs.YtpnnbihofoomeaaDoor

/-- Way n goes between i and o. -/
def hit (k : Int) (n : Nat) (i o : Int) : Prop := (n : Int) < kMany k ∧ ((i = aOf k n ∧ o = bOf k n) ∨ (i = bOf k n ∧ o = aOf k n))
instance hit.dec (k : Int) (n : Nat) (i o : Int) : Decidable (hit k n i o) := by unfold hit; infer_instance
theorem hit_comm (k : Int) (n : Nat) (i o : Int) : hit k n i o ↔ hit k n o i := by
  unfold hit
  constructor <;> rintro ⟨h, h'⟩ <;> exact ⟨h, by omega⟩

theorem way_spec (k i o : Int) : wayB k i o = decide (hit k 0 i o ∨ hit k 1 i o) ∧ wayN k i o = if hit k 1 i o then 1 else 0 := by
  rcases kCases k with ⟨rfl, _⟩ | ⟨rfl, _⟩ | ⟨rfl, _⟩ | ⟨_, _, _, _, m, _⟩
  · by_cases h0 : i = 0
    · subst h0
      by_cases g : o = 1
      · subst g; decide
      · have g' : ¬ 1 = o := fun e => g e.symm
        simp [wayB, wayN, wayF, pairs, prs, aOf, bOf, kMany, kB0, kA1, kB1, hit, g, g']
    · by_cases h1 : i = 1
      · subst h1
        by_cases g : o = 0
        · subst g; decide
        · have g' : ¬ 0 = o := fun e => g e.symm
          simp [wayB, wayN, wayF, pairs, prs, aOf, bOf, kMany, kB0, kA1, kB1, hit, g, g']
      · have h0' : ¬ 0 = i := fun e => h0 e.symm
        have h1' : ¬ 1 = i := fun e => h1 e.symm
        simp [wayB, wayN, wayF, pairs, prs, aOf, bOf, kMany, kB0, kA1, kB1, hit, h0, h1, h0', h1']
  · by_cases h0 : i = 0
    · subst h0
      by_cases g : o = 1
      · subst g; decide
      · by_cases f : o = 2
        · subst f; decide
        · have g' : ¬ 1 = o := fun e => g e.symm
          have f' : ¬ 2 = o := fun e => f e.symm
          simp [wayB, wayN, wayF, pairs, prs, aOf, bOf, kMany, kB0, kA1, kB1, hit, g, g', f, f']
    · by_cases h1 : i = 1
      · subst h1
        by_cases g : o = 0
        · subst g; decide
        · have g' : ¬ 0 = o := fun e => g e.symm
          simp [wayB, wayN, wayF, pairs, prs, aOf, bOf, kMany, kB0, kA1, kB1, hit, g, g']
      · by_cases h2 : i = 2
        · subst h2
          by_cases g : o = 0
          · subst g; decide
          · have g' : ¬ 0 = o := fun e => g e.symm
            simp [wayB, wayN, wayF, pairs, prs, aOf, bOf, kMany, kB0, kA1, kB1, hit, g, g']
        · have h0' : ¬ 0 = i := fun e => h0 e.symm
          have h1' : ¬ 1 = i := fun e => h1 e.symm
          have h2' : ¬ 2 = i := fun e => h2 e.symm
          simp [wayB, wayN, wayF, pairs, prs, aOf, bOf, kMany, kB0, kA1, kB1, hit, h0, h1, h2, h0', h1', h2']
  · by_cases h0 : i = 0
    · subst h0
      by_cases g : o = 1
      · subst g; decide
      · have g' : ¬ 1 = o := fun e => g e.symm
        simp [wayB, wayN, wayF, pairs, prs, aOf, bOf, kMany, kB0, kA1, kB1, hit, g, g']
    · by_cases h1 : i = 1
      · subst h1
        by_cases g : o = 0
        · subst g; decide
        · have g' : ¬ 0 = o := fun e => g e.symm
          simp [wayB, wayN, wayF, pairs, prs, aOf, bOf, kMany, kB0, kA1, kB1, hit, g, g']
      · by_cases h2 : i = 2
        · subst h2
          by_cases g : o = 3
          · subst g; decide
          · have g' : ¬ 3 = o := fun e => g e.symm
            simp [wayB, wayN, wayF, pairs, prs, aOf, bOf, kMany, kB0, kA1, kB1, hit, g, g']
        · by_cases h3 : i = 3
          · subst h3
            by_cases g : o = 2
            · subst g; decide
            · have g' : ¬ 2 = o := fun e => g e.symm
              simp [wayB, wayN, wayF, pairs, prs, aOf, bOf, kMany, kB0, kA1, kB1, hit, g, g']
          · have h0' : ¬ 0 = i := fun e => h0 e.symm
            have h1' : ¬ 1 = i := fun e => h1 e.symm
            have h2' : ¬ 2 = i := fun e => h2 e.symm
            have h3' : ¬ 3 = i := fun e => h3 e.symm
            simp [wayB, wayN, wayF, pairs, prs, aOf, bOf, kMany, kB0, kA1, kB1, hit, h0, h1, h2, h3, h0', h1', h2', h3']
  · simp [wayB, wayN, wayF, pairs, prs, hit, m]

theorem way_comm (k i o : Int) : wayB k i o = wayB k o i ∧ wayN k i o = wayN k o i := by
  rw [(way_spec k i o).1, (way_spec k i o).2, (way_spec k o i).1, (way_spec k o i).2]
  simp only [hit_comm k 0 i o, hit_comm k 1 i o, and_self]
theorem way_false {k i o : Int} (h : wayB k i o = false) : wayN k i o = 0 := by
  rw [(way_spec k i o).1] at h
  rw [(way_spec k i o).2]
  have h' := of_decide_eq_false h
  rw [if_neg (fun g => h' (.inr g))]
end Go.Proofs.YtpnnbihofoomeaaDoor

/-
  How a layout lies in memory, and what of it is plain: its sections, signals, exits, flanks, times as lists.
-/
namespace Go.Proofs.YtpnnbihofoomeaaDoor
open Go.RowKit Go.Shelf

/-! Plain data. -/
structure Sec where
  (k s0 p0 s1 p1 s2 p2 s3 p3 c0 c1 : Int)
  deriving DecidableEq
structure Prt where
  (s p : Int)
  deriving DecidableEq
structure Stp where
  (s i o : Int)
  deriving DecidableEq
structure Flk where
  (s way pt pos : Int)
  deriving DecidableEq
structure Ext' where
  (s p : Int)
  (over : List Stp)
  deriving DecidableEq
structure Lay where
  (secs : List Sec)
  (sigs : List Prt)
  (exits : List Ext')
  (flanks : List Flk)
  (t0 t1 t2 t3 t4 t5 t6 : Int)

def Sec.S (c : Sec) : Nat → Int
  | 0 => c.s0 | 1 => c.s1 | 2 => c.s2 | _ => c.s3
def Sec.P (c : Sec) : Nat → Int
  | 0 => c.p0 | 1 => c.p1 | 2 => c.p2 | _ => c.p3
def Sec.C (c : Sec) : Nat → Int
  | 0 => c.c0 | _ => c.c1
def Sec.enc (c : Sec) : List Value := [.int .u8 c.k, .int .i64 c.s0, .int .i64 c.p0, .int .i64 c.s1, .int .i64 c.p1, .int .i64 c.s2, .int .i64 c.p2, .int .i64 c.s3, .int .i64 c.p3, .int .i64 c.c0, .int .i64 c.c1]
def Prt.enc (c : Prt) : List Value := [.int .i64 c.s, .int .i64 c.p]
def Stp.enc (c : Stp) : List Value := [.int .i64 c.s, .int .i64 c.i, .int .i64 c.o]
def Flk.enc (c : Flk) : List Value := [.int .i64 c.s, .int .i64 c.way, .int .i64 c.pt, .int .i64 c.pos]
def Ext'.enc (c : Ext' × Value) : List Value := [.int .i64 c.1.s, .int .i64 c.1.p, c.2]
theorem secV_enc (c : Sec) : secV c.k c.S c.P c.C = .agg c.enc.toArray := rfl
instance : Inhabited Sec := ⟨⟨0, 0, 0, 0, 0, 0, 0, 0, 0, 0, 0⟩⟩

/-! Slices in memory. -/
/-- The cells from a on hold the elements xs, k cells each. -/
def RowAt' {α : Type} (W : World) (k : Nat) (enc : α → List Value) (b off : Nat) (xs : List α) : Prop :=
  b < W.heap.size ∧ ∀ (j : Nat) (x : α), xs[j]? = some x → ∀ (i : Nat) (v : Value), (enc x)[i]? = some v → W.cell? ⟨b, off + j * k + i, none⟩ = some v
/-- At A the elements xs lie. -/
def At {α : Type} (W : World) (k : Nat) (enc : α → List Value) (A : Option Addr) (xs : List α) : Prop :=
  xs = [] ∨ ∃ b off, A = some ⟨b, off, none⟩ ∧ RowAt' W k enc b off xs
theorem RowAt'.below {α : Type} {W W' : World} {k : Nat} {enc : α → List Value} {b off : Nat} {xs : List α} (h : RowAt' W k enc b off xs) (hb : Below W.heap.size W W') : RowAt' W' k enc b off xs :=
  ⟨Nat.lt_of_lt_of_le h.1 hb.size, fun j x hx i v hv => (hb.cell (p := ⟨b, off + j * k + i, none⟩) h.1).trans (h.2 j x hx i v hv)⟩
theorem At.below {α : Type} {W W' : World} {k : Nat} {enc : α → List Value} {A : Option Addr} {xs : List α} (h : At W k enc A xs) (hb : Below W.heap.size W W') : At W' k enc A xs := by
  rcases h with h | ⟨b, off, e, h⟩
  · exact .inl h
  · exact .inr ⟨b, off, e, h.below hb⟩
/-- Where one more is to come, the address is one. -/
theorem At.get {α : Type} {W : World} {k : Nat} {enc : α → List Value} {A : Option Addr} {xs : List α} (h : At W k enc A xs) {j : Nat} (hj : j < xs.length) : ∃ b off, A = some ⟨b, off, none⟩ ∧ RowAt' W k enc b off xs := by
  rcases h with h | h
  · subst h; simp at hj
  · exact h
/-- A slice value that holds xs. -/
def Sl {α : Type} (W : World) (k : Nat) (enc : α → List Value) (v : Value) (xs : List α) : Prop :=
  ∃ A cap, v = .slice A xs.length cap ∧ xs.length ≤ cap ∧ cap ≤ maxLen ∧ At W k enc A xs
theorem Sl.below {α : Type} {W W' : World} {k : Nat} {enc : α → List Value} {v : Value} {xs : List α} (h : Sl W k enc v xs) (hb : Below W.heap.size W W') : Sl W' k enc v xs := by
  obtain ⟨A, cap, e, h1, h2, h3⟩ := h
  exact ⟨A, cap, e, h1, h2, h3.below hb⟩
/-- The exits: each with the slice of its overlap. -/
def ExAt (W : World) (A : Option Addr) (xs : List Ext') : Prop :=
  ∃ es : List (Ext' × Value), es.map (·.1) = xs ∧ At W 3 Ext'.enc A es ∧ ∀ e ∈ es, Sl W 3 Stp.enc e.2 e.1.over
theorem ExAt.below {W W' : World} {A : Option Addr} {xs : List Ext'} (h : ExAt W A xs) (hb : Below W.heap.size W W') : ExAt W' A xs := by
  obtain ⟨es, e, h1, h2⟩ := h
  exact ⟨es, e, h1.below hb, fun y hy => (h2 y hy).below hb⟩

/-- Where a layout's four slices lie. -/
structure Where where
  (a0 a1 a2 a3 : Option Addr)
  (c0 c1 c2 c3 : Nat)
/-- A layout's value. -/
def Lay.cells (L : Lay) (p : Where) : List Value :=
  [.slice p.a0 L.secs.length p.c0, .slice p.a1 L.sigs.length p.c1, .slice p.a2 L.exits.length p.c2, .slice p.a3 L.flanks.length p.c3, .int .i64 L.t0, .int .i64 L.t1, .int .i64 L.t2, .int .i64 L.t3, .int .i64 L.t4, .int .i64 L.t5, .int .i64 L.t6]
structure LayAt (W : World) (p : Where) (L : Lay) : Prop where
  secs : At W 11 Sec.enc p.a0 L.secs
  sigs : At W 2 Prt.enc p.a1 L.sigs
  exits : ExAt W p.a2 L.exits
  flanks : At W 4 Flk.enc p.a3 L.flanks
  l0 : L.secs.length ≤ p.c0 ∧ p.c0 ≤ 9223372036854775807
  l1 : L.sigs.length ≤ p.c1 ∧ p.c1 ≤ 9223372036854775807
  l2 : L.exits.length ≤ p.c2 ∧ p.c2 ≤ 9223372036854775807
  l3 : L.flanks.length ≤ p.c3 ∧ p.c3 ≤ 9223372036854775807
  kinds : ∀ c ∈ L.secs, 0 ≤ c.k ∧ c.k ≤ 255
theorem LayAt.below {W W' : World} {p : Where} {L : Lay} (h : LayAt W p L) (hb : Below W.heap.size W W') : LayAt W' p L :=
  ⟨h.secs.below hb, h.sigs.below hb, h.exits.below hb, h.flanks.below hb, h.l0, h.l1, h.l2, h.l3, h.kinds⟩

/-! What is told of a layout, plainly. -/
def secAt (L : Lay) (s : Int) : Option Sec := if 0 ≤ s then L.secs[s.toNat]? else none
theorem secAt_none {L : Lay} {s : Int} (h : ¬ (0 ≤ s ∧ s < L.secs.length)) : secAt L s = none := by
  unfold secAt
  split
  · rw [List.getElem?_eq_none_iff]; omega
  · rfl
theorem secAt_some {L : Lay} {s : Int} (h : 0 ≤ s ∧ s < L.secs.length) : ∃ (n : Nat) (c : Sec), s = (n : Int) ∧ n < L.secs.length ∧ L.secs[n]? = some c ∧ secAt L s = some c ∧ c ∈ L.secs := by
  obtain ⟨n, rfl⟩ : ∃ n : Nat, s = (n : Int) := ⟨s.toNat, by omega⟩
  have hn : n < L.secs.length := by omega
  refine ⟨n, L.secs[n], rfl, hn, List.getElem?_eq_getElem hn, ?_, List.getElem_mem hn⟩
  unfold secAt
  rw [if_pos (by omega)]
  simp [hn]
/-- The section of a port. -/
def atO (L : Lay) (s p : Int) : Option Sec := (secAt L s).bind fun c => if 0 ≤ p ∧ p < kPorts c.k then some c else none
def zeroSec : Sec := ⟨0, 0, 0, 0, 0, 0, 0, 0, 0, 0, 0⟩
/-- The way of a step. -/
def stepN (L : Lay) (s i o : Int) : Int := match secAt L s with
  | some c => wayN c.k i o
  | none => 0
def stepB (L : Lay) (s i o : Int) : Bool := match secAt L s with
  | some c => wayB c.k i o
  | none => false
end Go.Proofs.YtpnnbihofoomeaaDoor

/-
  Numbers side by side, plainly: bits of bytes, bytes of bits, numbers of bits; the model's operations on bits as arithmetic.
-/
namespace Go.Proofs.YtpnnbihofoomeaaDoor
open Go.RowKit Go.Shelf

/-! The model's operations. -/
theorem and7 (x : Int) : bits .and .i64 x 7 = x % 8 := by
  show IntKind.i64.wrap (((BitVec.ofInt 64 x &&& BitVec.ofInt 64 7).toNat : Nat) : Int) = _
  rw [BitVec.toNat_and, show (BitVec.ofInt 64 7).toNat = 2 ^ 3 - 1 from rfl, Nat.and_two_pow_sub_one_eq_mod, BitVec.toNat_ofInt, IntKind.wrap_i64]
  omega
theorem and1 (x : Int) : bits .and .i64 x 1 = x % 2 := by
  show IntKind.i64.wrap (((BitVec.ofInt 64 x &&& BitVec.ofInt 64 1).toNat : Nat) : Int) = _
  rw [BitVec.toNat_and, show (BitVec.ofInt 64 1).toNat = 2 ^ 1 - 1 from rfl, Nat.and_two_pow_sub_one_eq_mod, BitVec.toNat_ofInt, IntKind.wrap_i64]
  omega
/-- What 'or' sets in a byte, what 'and' leaves of it. -/
theorem or_u8 {x k : Nat} (hx : x < 256) (hk : k < 8) : bits .or .u8 (x : Int) (128 / 2 ^ k) = ((x ||| 128 / 2 ^ k : Nat) : Int) := by
  have h : ((List.range 256).all fun x => (List.range 8).all fun k => decide (bits .or .u8 (x : Int) (128 / 2 ^ k) = ((x ||| 128 / 2 ^ k : Nat) : Int))) = true := by kernel_rfl
  have := List.all_eq_true.1 (List.all_eq_true.1 h x (List.mem_range.2 hx)) k (List.mem_range.2 hk)
  exact of_decide_eq_true this
theorem and_u8 {x k : Nat} (hx : x < 256) (hk : k ≤ 8) : bits .and .u8 (x : Int) (IntKind.u8.wrap (IntKind.u8.wrap (1 * 2 ^ k) - 1)) = ((x % 2 ^ k : Nat) : Int) := by
  have h : ((List.range 256).all fun x => (List.range 9).all fun k => decide (bits .and .u8 (x : Int) (IntKind.u8.wrap (IntKind.u8.wrap (1 * 2 ^ k) - 1)) = ((x % 2 ^ k : Nat) : Int))) = true := by kernel_rfl
  have := List.all_eq_true.1 (List.all_eq_true.1 h x (List.mem_range.2 hx)) k (List.mem_range.2 (by omega))
  exact of_decide_eq_true this
/-- 'or' of a number shifted by one and a bit. -/
theorem or1 {x b : Nat} (hx : x < 4611686018427387904) (hb : b < 2) : bits .or .i64 (2 * (x : Int)) (b : Int) = ((2 * x + b : Nat) : Int) := by
  show IntKind.i64.wrap (((BitVec.ofInt 64 (2 * (x : Int)) ||| BitVec.ofInt 64 (b : Int)).toNat : Nat) : Int) = _
  have e1 : (BitVec.ofInt 64 (2 * (x : Int))).toNat = 2 * x := by rw [BitVec.toNat_ofInt]; omega
  have e2 : (BitVec.ofInt 64 (b : Int)).toNat = b := by rw [BitVec.toNat_ofInt]; omega
  have e3 : 2 * x ||| b = 2 * x + b := by
    have h := Nat.two_pow_add_eq_or_of_lt (i := 1) (b := b) (by omega) x
    rw [Nat.pow_one] at h
    exact h.symm
  rw [BitVec.toNat_or, e1, e2, e3, IntKind.wrap_i64]
  omega

/-! Bits of bytes. -/
def bitN (b : Bool) : Nat := if b then 1 else 0
/-- Bit i of bytes, the highest of each first. -/
def bitB (bs : List Nat) (i : Nat) : Bool := (bs.getD (i / 8) 0).testBit (7 - i % 8)
/-- Byte k of bits. -/
def byteAt (f : Nat → Bool) (k : Nat) : Nat :=
  128 * bitN (f (8 * k)) + 64 * bitN (f (8 * k + 1)) + 32 * bitN (f (8 * k + 2)) + 16 * bitN (f (8 * k + 3)) + 8 * bitN (f (8 * k + 4)) + 4 * bitN (f (8 * k + 5)) + 2 * bitN (f (8 * k + 6)) + bitN (f (8 * k + 7))
def bitL (bl : List Bool) (i : Nat) : Bool := bl.getD i false
/-- The bytes of bits. -/
def pack (bl : List Bool) : List Nat := (List.range ((bl.length + 7) / 8)).map (byteAt (bitL bl))
theorem pack_length (bl : List Bool) : (pack bl).length = (bl.length + 7) / 8 := by simp [pack]
theorem bitN_le (b : Bool) : bitN b ≤ 1 := by cases b <;> decide
theorem byteAt_lt (f : Nat → Bool) (k : Nat) : byteAt f k < 256 := by
  unfold byteAt
  have h0 := bitN_le (f (8 * k)); have h1 := bitN_le (f (8 * k + 1)); have h2 := bitN_le (f (8 * k + 2)); have h3 := bitN_le (f (8 * k + 3))
  have h4 := bitN_le (f (8 * k + 4)); have h5 := bitN_le (f (8 * k + 5)); have h6 := bitN_le (f (8 * k + 6)); have h7 := bitN_le (f (8 * k + 7))
  omega
def byte8 (a b c d e f g h : Bool) : Nat := 128 * bitN a + 64 * bitN b + 32 * bitN c + 16 * bitN d + 8 * bitN e + 4 * bitN f + 2 * bitN g + bitN h
theorem byte8_bit : ∀ (a b c d e f g h : Bool), (byte8 a b c d e f g h).testBit 7 = a ∧ (byte8 a b c d e f g h).testBit 6 = b ∧ (byte8 a b c d e f g h).testBit 5 = c ∧ (byte8 a b c d e f g h).testBit 4 = d ∧ (byte8 a b c d e f g h).testBit 3 = e ∧ (byte8 a b c d e f g h).testBit 2 = f ∧ (byte8 a b c d e f g h).testBit 1 = g ∧ (byte8 a b c d e f g h).testBit 0 = h := by decide
theorem byteAt_bit (f : Nat → Bool) (k j : Nat) (hj : j < 8) : (byteAt f k).testBit (7 - j) = f (8 * k + j) := by
  obtain ⟨h7, h6, h5, h4, h3, h2, h1, h0⟩ := byte8_bit (f (8 * k)) (f (8 * k + 1)) (f (8 * k + 2)) (f (8 * k + 3)) (f (8 * k + 4)) (f (8 * k + 5)) (f (8 * k + 6)) (f (8 * k + 7))
  obtain rfl | rfl | rfl | rfl | rfl | rfl | rfl | rfl : j = 0 ∨ j = 1 ∨ j = 2 ∨ j = 3 ∨ j = 4 ∨ j = 5 ∨ j = 6 ∨ j = 7 := by omega
  · exact h7
  · exact h6
  · exact h5
  · exact h4
  · exact h3
  · exact h2
  · exact h1
  · exact h0
theorem pack_get (bl : List Bool) (k : Nat) (hk : k < (bl.length + 7) / 8) : (pack bl).getD k 0 = byteAt (bitL bl) k := by
  unfold pack
  rw [List.getD_eq_getElem?_getD, List.getElem?_map, List.getElem?_range hk]
  rfl
theorem bitL_far {bl : List Bool} {i : Nat} (h : bl.length ≤ i) : bitL bl i = false := by
  unfold bitL
  rw [List.getD_eq_getElem?_getD, List.getElem?_eq_none h]
  rfl
theorem pack_far (bl : List Bool) (k : Nat) (hk : (bl.length + 7) / 8 ≤ k) : (pack bl).getD k 0 = 0 := by
  rw [List.getD_eq_getElem?_getD, List.getElem?_eq_none (by rw [pack_length]; exact hk)]
  rfl
/-- The bits come back. -/
theorem bit_pack (bl : List Bool) (i : Nat) : bitB (pack bl) i = bitL bl i := by
  unfold bitB
  by_cases h : i / 8 < (bl.length + 7) / 8
  · rw [pack_get bl _ h, byteAt_bit _ _ _ (Nat.mod_lt _ (by decide))]
    congr 1
    omega
  · rw [pack_far bl _ (by omega), Nat.zero_testBit, bitL_far (by omega)]
theorem bitL_append (bl : List Bool) (c : Bool) (i : Nat) (h : i ≠ bl.length) : bitL (bl ++ [c]) i = bitL bl i := by
  unfold bitL
  by_cases hi : i < bl.length
  · rw [List.getD_eq_getElem?_getD, List.getD_eq_getElem?_getD, List.getElem?_append_left hi]
  · rw [List.getD_eq_getElem?_getD, List.getD_eq_getElem?_getD, List.getElem?_eq_none (by simp; omega), List.getElem?_eq_none (by omega)]
theorem bitL_last (bl : List Bool) (c : Bool) : bitL (bl ++ [c]) bl.length = c := by
  unfold bitL
  simp
theorem byteAt_congr {f g : Nat → Bool} {k : Nat} (h : ∀ j, j < 8 → f (8 * k + j) = g (8 * k + j)) : byteAt f k = byteAt g k := by
  unfold byteAt
  rw [h 1 (by omega), h 2 (by omega), h 3 (by omega), h 4 (by omega), h 5 (by omega), h 6 (by omega), h 7 (by omega)]
  have := h 0 (by omega)
  rw [Nat.add_zero] at this
  rw [this]
/-- One bit more: a new byte. -/
theorem pack_new (bl : List Bool) (c : Bool) (h : bl.length % 8 = 0) : pack (bl ++ [c]) = pack bl ++ [if c then 128 else 0] := by
  unfold pack
  rw [List.length_append, show (bl.length + [c].length + 7) / 8 = (bl.length + 7) / 8 + 1 by simp; omega, List.range_succ, List.map_append]
  congr 1
  · refine List.map_congr_left fun k hk => byteAt_congr fun j hj => bitL_append _ _ _ ?_
    have := List.mem_range.1 hk
    omega
  · have hk : 8 * ((bl.length + 7) / 8) = bl.length := by omega
    have hz : ∀ j, 0 < j → bitL (bl ++ [c]) (bl.length + j) = false := fun j hj => bitL_far (by simp; omega)
    simp only [List.map_cons, List.map_nil]
    unfold byteAt
    rw [hk, bitL_last, hz 1 (by omega), hz 2 (by omega), hz 3 (by omega), hz 4 (by omega), hz 5 (by omega), hz 6 (by omega), hz 7 (by omega)]
    cases c <;> rfl
/-- One bit more, in the last byte. -/
theorem byte8_set1 : ∀ (a : Bool), byte8 a true false false false false false false = byte8 a false false false false false false false ||| 64 := by decide
theorem byte8_set2 : ∀ (a b : Bool), byte8 a b true false false false false false = byte8 a b false false false false false false ||| 32 := by decide
theorem byte8_set3 : ∀ (a b c : Bool), byte8 a b c true false false false false = byte8 a b c false false false false false ||| 16 := by decide
theorem byte8_set4 : ∀ (a b c d : Bool), byte8 a b c d true false false false = byte8 a b c d false false false false ||| 8 := by decide
theorem byte8_set5 : ∀ (a b c d e : Bool), byte8 a b c d e true false false = byte8 a b c d e false false false ||| 4 := by decide
theorem byte8_set6 : ∀ (a b c d e f : Bool), byte8 a b c d e f true false = byte8 a b c d e f false false ||| 2 := by decide
theorem byte8_set7 : ∀ (a b c d e f g : Bool), byte8 a b c d e f g true = byte8 a b c d e f g false ||| 1 := by decide
theorem byteAt_set {f g : Nat → Bool} {k m : Nat} (hm : 0 < m) (hm8 : m < 8) (hlt : ∀ j, j < m → f (8 * k + j) = g (8 * k + j)) (hf : f (8 * k + m) = true) (hg : g (8 * k + m) = false) (hf0 : ∀ j, m < j → j < 8 → f (8 * k + j) = false) (hg0 : ∀ j, m < j → j < 8 → g (8 * k + j) = false) :
    byteAt f k = byteAt g k ||| 128 / 2 ^ m := by
  have h0 := hlt 0 hm
  rw [Nat.add_zero] at h0
  obtain rfl | rfl | rfl | rfl | rfl | rfl | rfl : m = 1 ∨ m = 2 ∨ m = 3 ∨ m = 4 ∨ m = 5 ∨ m = 6 ∨ m = 7 := by omega
  · unfold byteAt
    rw [h0, hf, hg, hf0 2 (by omega) (by omega), hg0 2 (by omega) (by omega), hf0 3 (by omega) (by omega), hg0 3 (by omega) (by omega), hf0 4 (by omega) (by omega), hg0 4 (by omega) (by omega), hf0 5 (by omega) (by omega), hg0 5 (by omega) (by omega), hf0 6 (by omega) (by omega), hg0 6 (by omega) (by omega), hf0 7 (by omega) (by omega), hg0 7 (by omega) (by omega)]
    exact byte8_set1 _
  · unfold byteAt
    rw [h0, hlt 1 (by omega), hf, hg, hf0 3 (by omega) (by omega), hg0 3 (by omega) (by omega), hf0 4 (by omega) (by omega), hg0 4 (by omega) (by omega), hf0 5 (by omega) (by omega), hg0 5 (by omega) (by omega), hf0 6 (by omega) (by omega), hg0 6 (by omega) (by omega), hf0 7 (by omega) (by omega), hg0 7 (by omega) (by omega)]
    exact byte8_set2 _ _
  · unfold byteAt
    rw [h0, hlt 1 (by omega), hlt 2 (by omega), hf, hg, hf0 4 (by omega) (by omega), hg0 4 (by omega) (by omega), hf0 5 (by omega) (by omega), hg0 5 (by omega) (by omega), hf0 6 (by omega) (by omega), hg0 6 (by omega) (by omega), hf0 7 (by omega) (by omega), hg0 7 (by omega) (by omega)]
    exact byte8_set3 _ _ _
  · unfold byteAt
    rw [h0, hlt 1 (by omega), hlt 2 (by omega), hlt 3 (by omega), hf, hg, hf0 5 (by omega) (by omega), hg0 5 (by omega) (by omega), hf0 6 (by omega) (by omega), hg0 6 (by omega) (by omega), hf0 7 (by omega) (by omega), hg0 7 (by omega) (by omega)]
    exact byte8_set4 _ _ _ _
  · unfold byteAt
    rw [h0, hlt 1 (by omega), hlt 2 (by omega), hlt 3 (by omega), hlt 4 (by omega), hf, hg, hf0 6 (by omega) (by omega), hg0 6 (by omega) (by omega), hf0 7 (by omega) (by omega), hg0 7 (by omega) (by omega)]
    exact byte8_set5 _ _ _ _ _
  · unfold byteAt
    rw [h0, hlt 1 (by omega), hlt 2 (by omega), hlt 3 (by omega), hlt 4 (by omega), hlt 5 (by omega), hf, hg, hf0 7 (by omega) (by omega), hg0 7 (by omega) (by omega)]
    exact byte8_set6 _ _ _ _ _ _
  · unfold byteAt
    rw [h0, hlt 1 (by omega), hlt 2 (by omega), hlt 3 (by omega), hlt 4 (by omega), hlt 5 (by omega), hlt 6 (by omega), hf, hg]
    exact byte8_set7 _ _ _ _ _ _ _
theorem pack_old (bl : List Bool) (c : Bool) (h : bl.length % 8 ≠ 0) : pack (bl ++ [c]) = (pack bl).set ((pack bl).length - 1) ((pack bl).getD ((pack bl).length - 1) 0 ||| (if c then 128 / 2 ^ (bl.length % 8) else 0)) := by
  have hl : (pack bl).length = bl.length / 8 + 1 := by rw [pack_length]; omega
  have hl' : (pack (bl ++ [c])).length = bl.length / 8 + 1 := by rw [pack_length]; simp; omega
  have h8 : 8 * (bl.length / 8) + bl.length % 8 = bl.length := by omega
  apply List.ext_getElem?
  intro k
  by_cases hk : k < bl.length / 8 + 1
  · have e1 : (pack (bl ++ [c]))[k]? = some (byteAt (bitL (bl ++ [c])) k) := by
      unfold pack
      rw [List.getElem?_map, List.getElem?_range (by simp; omega)]
      rfl
    have e2 : (pack bl)[k]? = some (byteAt (bitL bl) k) := by
      unfold pack
      rw [List.getElem?_map, List.getElem?_range (by omega)]
      rfl
    rw [e1, hl]
    by_cases hkl : k = bl.length / 8
    · subst hkl
      rw [Nat.add_sub_cancel, List.getElem?_set_self (by omega), pack_get bl _ (by omega)]
      congr 1
      cases c with
      | true =>
        rw [if_pos rfl]
        refine byteAt_set (by omega) (Nat.mod_lt _ (by decide)) (fun j hj => bitL_append _ _ _ (by omega)) ?_ ?_ (fun j hj hj8 => bitL_far (by simp; omega)) (fun j hj hj8 => bitL_far (by omega))
        · rw [h8, bitL_last]
        · rw [h8, bitL_far (Nat.le_refl _)]
      | false =>
        rw [if_neg (by decide), Nat.or_zero]
        refine byteAt_congr fun j hj => ?_
        by_cases hj : 8 * (bl.length / 8) + j = bl.length
        · rw [hj, bitL_last, bitL_far (Nat.le_refl _)]
        · exact bitL_append _ _ _ hj
    · rw [Nat.add_sub_cancel, List.getElem?_set_ne (Ne.symm hkl), e2]
      congr 1
      refine byteAt_congr fun j hj => bitL_append _ _ _ (by omega)
  · rw [List.getElem?_eq_none (by omega), List.getElem?_eq_none (by rw [List.length_set]; omega)]
theorem pack_lt (bl : List Bool) : ∀ b ∈ pack bl, b < 256 := by
  intro b hb
  obtain ⟨k, _, rfl⟩ := List.mem_map.1 hb
  exact byteAt_lt _ _
/-- The last byte's low bits are none. -/
theorem pack_low (bl : List Bool) (h : bl.length % 8 ≠ 0) : (pack bl).getD ((pack bl).length - 1) 0 % 2 ^ (8 - bl.length % 8) = 0 := by
  have hl : (pack bl).length = bl.length / 8 + 1 := by rw [pack_length]; omega
  rw [hl, Nat.add_sub_cancel, pack_get bl _ (by omega)]
  have h8 : 8 * (bl.length / 8) + bl.length % 8 = bl.length := by omega
  have hz : ∀ j, bl.length % 8 ≤ j → bitL bl (8 * (bl.length / 8) + j) = false := fun j hj => bitL_far (by omega)
  have hm : bl.length % 8 < 8 := Nat.mod_lt _ (by decide)
  generalize bl.length % 8 = m at h hz hm
  generalize bl.length / 8 = q at hz
  unfold byteAt
  obtain rfl | rfl | rfl | rfl | rfl | rfl | rfl : m = 1 ∨ m = 2 ∨ m = 3 ∨ m = 4 ∨ m = 5 ∨ m = 6 ∨ m = 7 := by omega
  · rw [hz 1 (by omega), hz 2 (by omega), hz 3 (by omega), hz 4 (by omega), hz 5 (by omega), hz 6 (by omega), hz 7 (by omega)]
    simp only [show bitN false = 0 from rfl, Nat.reduceSub, Nat.reducePow]
    omega
  · rw [hz 2 (by omega), hz 3 (by omega), hz 4 (by omega), hz 5 (by omega), hz 6 (by omega), hz 7 (by omega)]
    simp only [show bitN false = 0 from rfl, Nat.reduceSub, Nat.reducePow]
    omega
  · rw [hz 3 (by omega), hz 4 (by omega), hz 5 (by omega), hz 6 (by omega), hz 7 (by omega)]
    simp only [show bitN false = 0 from rfl, Nat.reduceSub, Nat.reducePow]
    omega
  · rw [hz 4 (by omega), hz 5 (by omega), hz 6 (by omega), hz 7 (by omega)]
    simp only [show bitN false = 0 from rfl, Nat.reduceSub, Nat.reducePow]
    omega
  · rw [hz 5 (by omega), hz 6 (by omega), hz 7 (by omega)]
    simp only [show bitN false = 0 from rfl, Nat.reduceSub, Nat.reducePow]
    omega
  · rw [hz 6 (by omega), hz 7 (by omega)]
    simp only [show bitN false = 0 from rfl, Nat.reduceSub, Nat.reducePow]
    omega
  · rw [hz 7 (by omega)]
    simp only [show bitN false = 0 from rfl, Nat.reduceSub, Nat.reducePow]
    omega
end Go.Proofs.YtpnnbihofoomeaaDoor

/-
  lockbarref05: Ports, Ways, Ends, Way.
-/
namespace Go.Proofs.YtpnnbihofoomeaaDoor
open Go.RowKit Go.Shelf

theorem rPorts_any (k : Int) (w : World) :
    Calls Tryd.prog 64 #[.int .u8 k] w fun e w' => e = .returned (.int .i64 (kPorts k)) ∧ Below w.heap.size w w' := by
  rcases kCases k with ⟨rfl, h, _⟩ | ⟨rfl, h, _⟩ | ⟨rfl, h, _⟩ | ⟨h1, h2, h3, h, _⟩
  all_goals rw [h]; clear h
  · go_enter Tryd.func64, Tryd.ntmps64
    go_wp2
    go_ret
    exact ⟨rfl, Below.refl _ _⟩
  · go_enter Tryd.func64, Tryd.ntmps64
    go_wp2
    go_ret
    exact ⟨rfl, Below.refl _ _⟩
  · go_enter Tryd.func64, Tryd.ntmps64
    go_wp2
    go_ret
    exact ⟨rfl, Below.refl _ _⟩
  · have d1 : (k == 1) = false := by simpa using h1
    have d2 : (k == 2) = false := by simpa using h2
    have d3 : (k == 3) = false := by simpa using h3
    go_enter Tryd.func64, Tryd.ntmps64
    go_wp2
    go_ret
    exact ⟨rfl, Below.refl _ _⟩

theorem rWays_any (k : Int) (w : World) :
    Calls Tryd.prog 65 #[.int .u8 k] w fun e w' => e = .returned (.int .i64 (kMany k)) ∧ Below w.heap.size w w' := by
  rcases kCases k with ⟨rfl, _, h, _⟩ | ⟨rfl, _, h, _⟩ | ⟨rfl, _, h, _⟩ | ⟨h1, h2, h3, _, h, _⟩
  all_goals rw [h]; clear h
  · go_enter Tryd.func65, Tryd.ntmps65
    go_wp2
    go_ret
    exact ⟨rfl, Below.refl _ _⟩
  · go_enter Tryd.func65, Tryd.ntmps65
    go_wp2
    go_ret
    exact ⟨rfl, Below.refl _ _⟩
  · go_enter Tryd.func65, Tryd.ntmps65
    go_wp2
    go_ret
    exact ⟨rfl, Below.refl _ _⟩
  · have d1 : (k == 1) = false := by simpa using h1
    have d2 : (k == 2) = false := by simpa using h2
    have d3 : (k == 3) = false := by simpa using h3
    go_enter Tryd.func65, Tryd.ntmps65
    go_wp2
    go_ret
    exact ⟨rfl, Below.refl _ _⟩

theorem rEnds_in (k : Int) (n : Nat) (h : (n : Int) < kMany k) (w : World) :
    Calls Tryd.prog 98 #[.int .u8 k, .int .i64 n] w fun e w' => e = .returned (.tuple #[.int .i64 (aOf k n), .int .i64 (bOf k n), .bool true]) ∧ Below w.heap.size w w' := by
  have hw := fun w1 => rWays_any k w1
  have hn : n = 0 ∨ n = 1 := by have := kMany_le k; omega
  rcases kCases k with ⟨rfl, _, m, _⟩ | ⟨rfl, _, m, _⟩ | ⟨rfl, _, m, _⟩ | ⟨_, _, _, _, m, _⟩
  all_goals rw [m] at h hw
  · obtain rfl : n = 0 := by omega
    have HW := Lib.hid hw
    clear hw m h
    go_enter Tryd.func98, Tryd.ntmps98
    go_wp2_with fail
    (with_reducible refine (HW.out _).mono ?_)
    rintro e w1 ⟨rfl, b⟩
    go_wp2
    go_ret3
    exact ⟨rfl, b⟩
  · have HW := Lib.hid hw
    clear hw m h
    rcases hn with rfl | rfl
    all_goals
      go_enter Tryd.func98, Tryd.ntmps98
      go_wp2_with fail
      (with_reducible refine (HW.out _).mono ?_)
      rintro e w1 ⟨rfl, b⟩
      go_wp2
      go_ret3
      exact ⟨rfl, b⟩
  · have HW := Lib.hid hw
    clear hw m h
    rcases hn with rfl | rfl
    all_goals
      go_enter Tryd.func98, Tryd.ntmps98
      go_wp2_with fail
      (with_reducible refine (HW.out _).mono ?_)
      rintro e w1 ⟨rfl, b⟩
      go_wp2
      go_ret3
      exact ⟨rfl, b⟩
  · omega

theorem hit_one {k : Int} {i o : Int} : hit k 0 i o → ¬ hit k 1 i o := by
  unfold hit
  rcases kCases k with ⟨rfl, _⟩ | ⟨rfl, _⟩ | ⟨rfl, _⟩ | ⟨_, _, _, _, m, _⟩
  · simp [kMany]
  · simp [kMany, aOf, bOf, kB0, kA1, kB1]; omega
  · simp [kMany, aOf, bOf, kB0, kA1, kB1]; omega
  · rw [m]; omega
/-- The way that is hit first is the way. -/
theorem way_hit {k i o : Int} {n : Nat} (h : hit k n i o) : wayN k i o = n ∧ wayB k i o = true := by
  have hm := kMany_le k
  have hn : n = 0 ∨ n = 1 := by have := h.1; omega
  rw [(way_spec k i o).1, (way_spec k i o).2]
  rcases hn with rfl | rfl
  · exact ⟨by rw [if_neg (hit_one h)]; rfl, decide_eq_true (.inl h)⟩
  · exact ⟨by rw [if_pos h]; rfl, decide_eq_true (.inr h)⟩
theorem way_miss {k i o : Int} (h : ∀ n : Nat, (n : Int) < kMany k → ¬ hit k n i o) : wayN k i o = 0 ∧ wayB k i o = false := by
  have h0 : ¬ hit k 0 i o := fun g => h 0 g.1 g
  have h1 : ¬ hit k 1 i o := fun g => h 1 g.1 g
  rw [(way_spec k i o).1, (way_spec k i o).2]
  exact ⟨if_neg h1, decide_eq_false (by rintro (g | g); exact h0 g; exact h1 g)⟩

set_option maxRecDepth 100000 in
set_option maxHeartbeats 2000000 in
theorem rWay_any (k i o : Int) (w : World) :
    Calls Tryd.prog 95 #[.int .u8 k, .int .i64 i, .int .i64 o] w fun e w' => e = .returned (.tuple #[.int .i64 (wayN k i o), .bool (wayB k i o)]) ∧ Below w.heap.size w w' := by
  have hm := kMany_le k
  obtain ⟨m, hmk⟩ : ∃ m, m = kMany k := ⟨_, rfl⟩
  have hw := fun w1 => rWays_any k w1
  rw [← hmk] at hw hm
  have HW := Lib.hid hw
  have HM := Lib.hid hmk
  have HY : Hid (∀ n : Nat, hit k n i o → wayN k i o = n ∧ wayB k i o = true) := Lib.hid (fun n h => way_hit h)
  have HZ : Hid ((∀ n : Nat, (n : Int) < kMany k → ¬ hit k n i o) → wayN k i o = 0 ∧ wayB k i o = false) := Lib.hid way_miss
  clear hw hmk
  generalize wayN k i o = r at HY HZ
  generalize wayB k i o = q at HY HZ
  go_enter Tryd.func95, Tryd.ntmps95
  go_wp2_with fail
  go_loopg [8] 2 (fun g s8 wr => ∃ n : Nat, n ≤ 2 ∧ 2 - n ≤ g ∧ s8 = .int .i64 n ∧ Hid (∀ j : Nat, j < n → ¬ hit k j i o) ∧ Hid (Below w.heap.size w wr))
  case atStart => exact ⟨0, by omega, by omega, rfl, Lib.hid (fun j hj => by omega), Lib.hid (Below.refl _ _)⟩
  case round =>
    obtain ⟨n, hn, hg, rfl, HJ, HB⟩ := hrel
    by_cases hlt : (n : Int) < m
    · have he := fun w1 => rEnds_in k n (by rw [← HM.out]; exact hlt) w1
      obtain ⟨a, ha⟩ : ∃ a, a = aOf k n := ⟨_, rfl⟩
      obtain ⟨b, hb⟩ : ∃ b, b = bOf k n := ⟨_, rfl⟩
      rw [← ha, ← hb] at he
      have hit_ab : hit k n i o ↔ ((i = a ∧ o = b) ∨ (i = b ∧ o = a)) := by
        unfold hit
        rw [← ha, ← hb, ← HM.out]
        exact ⟨fun h => h.2, fun h => ⟨hlt, h⟩⟩
      have HE := Lib.hid he
      have HH := Lib.hid hit_ab
      clear he ha hb hit_ab
      have hd : decide ((n : Int) < m) = true := decide_eq_true hlt
      go_wp2_with fail
      (with_reducible refine (HW.out _).mono ?_)
      rintro e w1 ⟨rfl, b1⟩
      go_wp2_with fail
      (with_reducible refine (HE.out _).mono ?_)
      rintro e w2 ⟨rfl, b2⟩
      have HB2 := Lib.hid (bchain (bchain HB.out b1) b2)
      clear b1 b2 hd HB
      cases h1 : (i == a) <;> cases h2 : (o == b) <;> cases h3 : (i == b) <;> cases h4 : (o == a)
      all_goals
        go_wp2
        first
          | (go_ret2
             obtain ⟨rfl, rfl⟩ := HY.out n (HH.out.2 (by simp at h1 h2 h3 h4; omega))
             exact ⟨rfl, HB2.out⟩)
          | (go_roundg (2 - (n + 1))
             case measure => omega
             case rel =>
               refine ⟨n + 1, by omega, by omega, by go_num, Lib.hid (fun j hj => ?_), HB2⟩
               by_cases e : j = n
               · subst e
                 rw [HH.out]
                 simp at h1 h2 h3 h4
                 omega
               · exact HJ.out j (by omega))
    · have hd : decide ((n : Int) < m) = false := decide_eq_false hlt
      go_wp2_with fail
      (with_reducible refine (HW.out _).mono ?_)
      rintro e w1 ⟨rfl, b1⟩
      go_wp2
      go_ret2
      obtain ⟨rfl, rfl⟩ := HZ.out (fun j hj => HJ.out j (by rw [← HM.out] at hj; omega))
      exact ⟨rfl, bchain HB.out b1⟩
end Go.Proofs.YtpnnbihofoomeaaDoor

/-
  layout.section, At, Step; lockbarref06.At, there, Step.
-/
namespace Go.Proofs.YtpnnbihofoomeaaDoor
open Go.RowKit Go.Shelf

abbrev Lay.val (L : Lay) (p : Where) : Value :=
  .agg #[.slice p.a0 L.secs.length p.c0, .slice p.a1 L.sigs.length p.c1, .slice p.a2 L.exits.length p.c2, .slice p.a3 L.flanks.length p.c3, .int .i64 L.t0, .int .i64 L.t1, .int .i64 L.t2, .int .i64 L.t3, .int .i64 L.t4, .int .i64 L.t5, .int .i64 L.t6]

def isSec (L : Lay) (s : Int) : Bool := decide (0 ≤ s ∧ s < L.secs.length)
theorem section_any (L : Lay) (p : Where) (s : Int) (w : World) :
    Calls Tryd.prog 48 #[L.val p, .int .i64 s] w fun e w' => e = .returned (.bool (isSec L s)) ∧ Below w.heap.size w w' := by
  unfold Lay.val
  by_cases h0 : 0 ≤ s
  · by_cases h1 : s < L.secs.length
    · rw [show isSec L s = true from decide_eq_true ⟨h0, h1⟩]
      go_enter Tryd.func48, Tryd.ntmps48
      go_wp2
      go_ret
      exact ⟨rfl, bself⟩
    · rw [show isSec L s = false from decide_eq_false (fun h => h1 h.2)]
      go_enter Tryd.func48, Tryd.ntmps48
      go_wp2
      go_ret
      exact ⟨rfl, bself⟩
  · rw [show isSec L s = false from decide_eq_false (fun h => h0 h.1)]
    go_enter Tryd.func48, Tryd.ntmps48
    go_wp2
    go_ret
    exact ⟨rfl, bself⟩

/-- The section of a port, as it is told. -/
def atV (o : Option Sec) : Value := .tuple #[.agg (o.getD zeroSec).enc.toArray, .bool o.isSome]

/-- A section's cells, as the walk asks for them. -/
theorem sec_cells {W : World} {b off n : Nat} {xs : List Sec} {c : Sec} (h : RowAt' W 11 Sec.enc b off xs) (hc : xs[n]? = some c) :
    W.cell? ⟨b, off + n * 11, none⟩ = some (.int .u8 c.k) ∧ W.cell? ⟨b, off + n * 11 + 1, none⟩ = some (.int .i64 c.s0) ∧ W.cell? ⟨b, off + n * 11 + 2, none⟩ = some (.int .i64 c.p0) ∧ W.cell? ⟨b, off + n * 11 + 3, none⟩ = some (.int .i64 c.s1) ∧ W.cell? ⟨b, off + n * 11 + 4, none⟩ = some (.int .i64 c.p1) ∧
    W.cell? ⟨b, off + n * 11 + 5, none⟩ = some (.int .i64 c.s2) ∧ W.cell? ⟨b, off + n * 11 + 6, none⟩ = some (.int .i64 c.p2) ∧ W.cell? ⟨b, off + n * 11 + 7, none⟩ = some (.int .i64 c.s3) ∧ W.cell? ⟨b, off + n * 11 + 8, none⟩ = some (.int .i64 c.p3) ∧ W.cell? ⟨b, off + n * 11 + 9, none⟩ = some (.int .i64 c.c0) ∧ W.cell? ⟨b, off + n * 11 + 10, none⟩ = some (.int .i64 c.c1) :=
  ⟨h.2 n c hc 0 _ rfl, h.2 n c hc 1 _ rfl, h.2 n c hc 2 _ rfl, h.2 n c hc 3 _ rfl, h.2 n c hc 4 _ rfl, h.2 n c hc 5 _ rfl, h.2 n c hc 6 _ rfl, h.2 n c hc 7 _ rfl, h.2 n c hc 8 _ rfl, h.2 n c hc 9 _ rfl, h.2 n c hc 10 _ rfl⟩

set_option maxRecDepth 100000 in
set_option maxHeartbeats 2000000 in
theorem at_none (L : Lay) (p : Where) (s q : Int) (w : World) (hs : isSec L s = false) :
    Calls Tryd.prog 55 #[L.val p, .agg #[.int .i64 s, .int .i64 q]] w fun e w' => e = .returned (atV none) ∧ Below w.heap.size w w' := by
  have hc := fun w1 => section_any L p s w1
  rw [hs] at hc
  have HC := Lib.hid hc
  clear hc hs
  unfold Lay.val
  go_enter Tryd.func55, Tryd.ntmps55
  go_wp2_with fail
  refine wp_scope_fwd 0 rfl ?_
  go_wp2_with fail
  refine wp_region_ext (by kernel_rfl) (by kernel_rfl) fun hx => ?_
  repeat (go_big_quiet_step ((go_at_call 48; exact Calls.ext (HC.out _))))
  refine wpQuiet_nil ?_
  intro w5 b5
  obtain ⟨hc, hf, hz⟩ := bcell b5
  have B := bchain (bchain (bchain (bself (w := w) (o := _)) bself) bself) b5
  clear b5 hz
  go_wp2
  refine wp_goto ?_
  refine ⟨rfl, ?_⟩
  go_wp2
  rw [Exit.noGoto_ret]
  refine bodyPost_ret (v := atV none) (by simp [results, Tryd.results55, go_sem, hc, atV, zeroSec, Sec.enc]) rfl ⟨rfl, ?_⟩
  repeat refine Below.setCell ?_ (by dsimp only; omega) _
  exact B

set_option maxRecDepth 100000 in
set_option maxHeartbeats 4000000 in
theorem at_out (L : Lay) (p : Where) (n : Nat) (c : Sec) (q : Int) (w : World) (hL : LayAt w p L) (K : Kinds w) (hn : n < L.secs.length) (hc : L.secs[n]? = some c) (hq : ¬ (0 ≤ q ∧ q < kPorts c.k)) :
    Calls Tryd.prog 55 #[L.val p, .agg #[.int .i64 n, .int .i64 q]] w fun e w' => e = .returned (atV none) ∧ Below w.heap.size w w' := by
  have hs := fun w1 => section_any L p n w1
  rw [show isSec L n = true from decide_eq_true (by omega)] at hs
  obtain ⟨a0, a1, a2, a3, p0, p1, p2, p3⟩ := p
  obtain ⟨b, off, e0, hrow⟩ := hL.secs.get hn
  dsimp only at e0
  subst e0
  have l0 := hrow.1
  have k0 := (sec_cells hrow hc).1
  have hk := hL.kinds c (List.mem_of_getElem? hc)
  have hp := fun w1 (K1 : Kinds w1) => ports_any c.k hk.1 hk.2 w1 K1
  obtain ⟨np, hnp⟩ : ∃ np, np = kPorts c.k := ⟨_, rfl⟩
  obtain ⟨ck, hck⟩ : ∃ ck, ck = c.k := ⟨_, rfl⟩
  rw [← hck] at k0
  rw [← hnp, ← hck] at hp
  rw [← hnp] at hq
  have HS := Lib.hid hs
  have HP := Lib.hid hp
  have KH := Lib.hid K
  have hln : n < L.secs.length := hn
  clear hs hp hc hk hck hnp hrow K hL
  unfold Lay.val
  have hqq : q < 0 ∨ (¬ q < 0 ∧ np ≤ q) := by omega
  clear hq
  rcases hqq with hq | ⟨hq, hq2⟩
  · go_enter Tryd.func55, Tryd.ntmps55
    go_wp2_with fail
    refine wp_scope_fwd 0 rfl ?_
    go_wp2_with fail
    refine wp_region_ext (by kernel_rfl) (by kernel_rfl) fun hx => ?_
    repeat (go_big_quiet_step ((go_at_call 48; exact Calls.ext (HS.out _))))
    refine wpQuiet_nil ?_
    intro w5 b5
    obtain ⟨hc, hf, hz⟩ := bcell b5
    have B := bchain (bchain (bchain (bself (w := w) (o := _)) bself) bself) b5
    clear b5 hz
    go_wp2
    refine wp_goto ?_
    refine ⟨rfl, ?_⟩
    go_wp2
    rw [Exit.noGoto_ret]
    refine bodyPost_ret (v := atV none) (by simp [results, Tryd.results55, go_sem, hc, atV, zeroSec, Sec.enc]) rfl ⟨rfl, ?_⟩
    repeat refine Below.setCell ?_ (by dsimp only; omega) _
    exact B
  · have hd : decide (q < 0) = false := decide_eq_false hq
    have hd2 : decide (np ≤ q) = true := decide_eq_true hq2
    go_enter Tryd.func55, Tryd.ntmps55
    go_wp2_with fail
    refine wp_scope_fwd 0 rfl ?_
    go_wp2_with fail
    refine wp_region_ext (by kernel_rfl) (by kernel_rfl) fun hx => ?_
    have l1 : b < w.heap.size + 1 := by omega
    have l2 : b < w.heap.size + 1 + 1 := by omega
    have l3 : b < w.heap.size + 1 + 1 + 1 := by omega
    repeat (go_big_quiet_step (first | (go_at_call 48; exact Calls.ext (HS.out _)) | (go_at_call 87; exact Calls.ext (HP.out _ (KH.out.below (bchain (bchain (bchain bself bself) bself) (Ext.below _)))))))
    refine wpQuiet_nil ?_
    intro w5 b5
    obtain ⟨hc, hf, hz⟩ := bcell b5
    have B := bchain (bchain (bchain (bself (w := w) (o := _)) bself) bself) b5
    clear b5 hz
    go_wp2
    refine wp_goto ?_
    refine ⟨rfl, ?_⟩
    go_wp2
    rw [Exit.noGoto_ret]
    refine bodyPost_ret (v := atV none) (by simp [results, Tryd.results55, go_sem, hc, atV, zeroSec, Sec.enc]) rfl ⟨rfl, ?_⟩
    repeat refine Below.setCell ?_ (by dsimp only; omega) _
    exact B

set_option maxRecDepth 100000 in
set_option maxHeartbeats 4000000 in
theorem at_some (L : Lay) (p : Where) (n : Nat) (c : Sec) (q : Int) (w : World) (hL : LayAt w p L) (K : Kinds w) (hn : n < L.secs.length) (hc : L.secs[n]? = some c) (hq0 : 0 ≤ q) (hq : q < kPorts c.k) :
    Calls Tryd.prog 55 #[L.val p, .agg #[.int .i64 n, .int .i64 q]] w fun e w' => e = .returned (atV (some c)) ∧ Below w.heap.size w w' := by
  have hs := fun w1 => section_any L p n w1
  rw [show isSec L n = true from decide_eq_true (by omega)] at hs
  obtain ⟨a0, a1, a2, a3, p0, p1, p2, p3⟩ := p
  obtain ⟨b, off, e0, hrow⟩ := hL.secs.get hn
  dsimp only at e0
  subst e0
  have l0 := hrow.1
  have l1 : b < w.heap.size + 1 := by omega
  have l2 : b < w.heap.size + 1 + 1 := by omega
  have l3 : b < w.heap.size + 1 + 1 + 1 := by omega
  obtain ⟨k0, k1, k2, k3, k4, k5, k6, k7, k8, k9, k10⟩ := sec_cells hrow hc
  have hk := hL.kinds c (List.mem_of_getElem? hc)
  have hp := fun w1 (K1 : Kinds w1) => ports_any c.k hk.1 hk.2 w1 K1
  obtain ⟨np, hnp⟩ : ∃ np, np = kPorts c.k := ⟨_, rfl⟩
  rw [← hnp] at hp
  rw [← hnp] at hq
  have HS := Lib.hid hs
  have HP := Lib.hid hp
  have KH := Lib.hid K
  have hln : n < L.secs.length := hn
  clear hs hp hc hk hnp hrow K hL
  unfold Lay.val
  have hd : decide (q < 0) = false := decide_eq_false (by omega)
  have hd2 : decide (np ≤ q) = false := decide_eq_false (by omega)
  go_enter Tryd.func55, Tryd.ntmps55
  go_wp2_with fail
  refine wp_scope_fwd 0 rfl ?_
  go_wp2_with fail
  refine wp_region_ext (by kernel_rfl) (by kernel_rfl) fun hx => ?_
  repeat (go_big_quiet_step (first | (go_at_call 48; exact Calls.ext (HS.out _)) | (go_at_call 87; exact Calls.ext (HP.out _ (KH.out.below (bchain (bchain (bchain bself bself) bself) (Ext.below _)))))))
  refine wpQuiet_nil ?_
  intro w5 b5
  obtain ⟨hc, hf, hz⟩ := bcell b5
  have B := bchain (bchain (bchain (bself (w := w) (o := _)) bself) bself) b5
  have l5 : b < w5.heap.size := hz _ (by simp; omega)
  clear b5 hz
  go_wp2
  rw [Exit.fwd_ret]
  refine bodyPost_ret (v := atV (some c)) (by simp [results, Tryd.results55, go_sem, hc, atV, Sec.enc]) rfl ⟨rfl, ?_⟩
  repeat refine Below.setCell ?_ (by dsimp only; omega) _
  exact B

set_option maxRecDepth 100000 in
set_option maxHeartbeats 2000000 in
theorem rAt_none (L : Lay) (p : Where) (s q : Int) (w : World) (hs : isSec L s = false) :
    Calls Tryd.prog 79 #[L.val p, .agg #[.int .i64 s, .int .i64 q]] w fun e w' => e = .returned (atV none) ∧ Below w.heap.size w w' := by
  have hs2 : s < 0 ∨ (¬ s < 0 ∧ (L.secs.length : Int) ≤ s) := by
    have := of_decide_eq_false hs
    omega
  clear hs
  unfold Lay.val
  rcases hs2 with h | ⟨h, h2⟩
  · have hd : decide (s < 0) = true := decide_eq_true h
    go_enter Tryd.func79, Tryd.ntmps79
    go_wp2_with fail
    refine wp_region_ext (by kernel_rfl) (by kernel_rfl) fun hx => ?_
    repeat (go_big_quiet_step (fail))
    refine wpQuiet_nil ?_
    intro w5 b5
    obtain ⟨hc, hf, hz⟩ := bcell b5
    have B := bchain (bchain (bchain (bself (w := w) (o := _)) bself) bself) b5
    clear b5 hz
    go_wp2
    refine bodyPost_ret (v := atV none) (by simp [results, Tryd.results79, go_sem, hc, atV, zeroSec, Sec.enc]) rfl ⟨rfl, ?_⟩
    repeat refine Below.setCell ?_ (by dsimp only; omega) _
    exact B
  · have hd : decide (s < 0) = false := decide_eq_false h
    have hd2 : decide ((L.secs.length : Int) ≤ s) = true := decide_eq_true h2
    go_enter Tryd.func79, Tryd.ntmps79
    go_wp2_with fail
    refine wp_region_ext (by kernel_rfl) (by kernel_rfl) fun hx => ?_
    repeat (go_big_quiet_step (fail))
    refine wpQuiet_nil ?_
    intro w5 b5
    obtain ⟨hc, hf, hz⟩ := bcell b5
    have B := bchain (bchain (bchain (bself (w := w) (o := _)) bself) bself) b5
    clear b5 hz
    go_wp2
    refine bodyPost_ret (v := atV none) (by simp [results, Tryd.results79, go_sem, hc, atV, zeroSec, Sec.enc]) rfl ⟨rfl, ?_⟩
    repeat refine Below.setCell ?_ (by dsimp only; omega) _
    exact B

set_option maxRecDepth 100000 in
set_option maxHeartbeats 4000000 in
theorem rAt_out (L : Lay) (p : Where) (n : Nat) (c : Sec) (q : Int) (w : World) (hL : LayAt w p L) (hn : n < L.secs.length) (hc : L.secs[n]? = some c) (hq : ¬ (0 ≤ q ∧ q < kPorts c.k)) :
    Calls Tryd.prog 79 #[L.val p, .agg #[.int .i64 n, .int .i64 q]] w fun e w' => e = .returned (atV none) ∧ Below w.heap.size w w' := by
  obtain ⟨a0, a1, a2, a3, p0, p1, p2, p3⟩ := p
  obtain ⟨b, off, e0, hrow⟩ := hL.secs.get hn
  dsimp only at e0
  subst e0
  have l0 := hrow.1
  have l1 : b < w.heap.size + 1 := by omega
  have l2 : b < w.heap.size + 1 + 1 := by omega
  have l3 : b < w.heap.size + 1 + 1 + 1 := by omega
  obtain ⟨k0, k1, k2, k3, k4, k5, k6, k7, k8, k9, k10⟩ := sec_cells hrow hc
  have hk := hL.kinds c (List.mem_of_getElem? hc)
  have hp := fun w1 => rPorts_any c.k w1
  obtain ⟨np, hnp⟩ : ∃ np, np = kPorts c.k := ⟨_, rfl⟩
  rw [← hnp] at hp
  rw [← hnp] at hq
  have HP := Lib.hid hp
  have hln : n < L.secs.length := hn
  have hds : decide ((n : Int) < 0) = false := decide_eq_false (by omega)
  have hds2 : decide (L.secs.length ≤ n) = false := decide_eq_false (by omega)
  clear hp hc hk hnp hrow hL
  unfold Lay.val
  have hqq : q < 0 ∨ (¬ q < 0 ∧ np ≤ q) := by omega
  clear hq
  rcases hqq with h | ⟨h, h2⟩
  · have hd : decide (q < 0) = true := decide_eq_true h
    go_enter Tryd.func79, Tryd.ntmps79
    go_wp2_with fail
    refine wp_region_ext (by kernel_rfl) (by kernel_rfl) fun hx => ?_
    repeat (go_big_quiet_step ((go_at_call 64; exact Calls.ext (HP.out _))))
    refine wpQuiet_nil ?_
    intro w5 b5
    obtain ⟨hc, hf, hz⟩ := bcell b5
    have B := bchain (bchain (bchain (bself (w := w) (o := _)) bself) bself) b5
    have l5 : b < w5.heap.size := hz _ (by simp; omega)
    clear b5 hz
    go_wp2
    refine bodyPost_ret (v := atV none) (by simp [results, Tryd.results79, go_sem, hc, atV, zeroSec, Sec.enc]) rfl ⟨rfl, ?_⟩
    repeat refine Below.setCell ?_ (by dsimp only; omega) _
    exact B
  · have hd : decide (q < 0) = false := decide_eq_false h
    have hd2 : decide (np ≤ q) = true := decide_eq_true h2
    go_enter Tryd.func79, Tryd.ntmps79
    go_wp2_with fail
    refine wp_region_ext (by kernel_rfl) (by kernel_rfl) fun hx => ?_
    repeat (go_big_quiet_step ((go_at_call 64; exact Calls.ext (HP.out _))))
    refine wpQuiet_nil ?_
    intro w5 b5
    obtain ⟨hc, hf, hz⟩ := bcell b5
    have B := bchain (bchain (bchain (bself (w := w) (o := _)) bself) bself) b5
    have l5 : b < w5.heap.size := hz _ (by simp; omega)
    clear b5 hz
    go_wp2
    refine bodyPost_ret (v := atV none) (by simp [results, Tryd.results79, go_sem, hc, atV, zeroSec, Sec.enc]) rfl ⟨rfl, ?_⟩
    repeat refine Below.setCell ?_ (by dsimp only; omega) _
    exact B

set_option maxRecDepth 100000 in
set_option maxHeartbeats 4000000 in
theorem rAt_some (L : Lay) (p : Where) (n : Nat) (c : Sec) (q : Int) (w : World) (hL : LayAt w p L) (hn : n < L.secs.length) (hc : L.secs[n]? = some c) (hq0 : 0 ≤ q) (hq : q < kPorts c.k) :
    Calls Tryd.prog 79 #[L.val p, .agg #[.int .i64 n, .int .i64 q]] w fun e w' => e = .returned (atV (some c)) ∧ Below w.heap.size w w' := by
  obtain ⟨a0, a1, a2, a3, p0, p1, p2, p3⟩ := p
  obtain ⟨b, off, e0, hrow⟩ := hL.secs.get hn
  dsimp only at e0
  subst e0
  have l0 := hrow.1
  have l1 : b < w.heap.size + 1 := by omega
  have l2 : b < w.heap.size + 1 + 1 := by omega
  have l3 : b < w.heap.size + 1 + 1 + 1 := by omega
  obtain ⟨k0, k1, k2, k3, k4, k5, k6, k7, k8, k9, k10⟩ := sec_cells hrow hc
  have hk := hL.kinds c (List.mem_of_getElem? hc)
  have hp := fun w1 => rPorts_any c.k w1
  obtain ⟨np, hnp⟩ : ∃ np, np = kPorts c.k := ⟨_, rfl⟩
  rw [← hnp] at hp
  rw [← hnp] at hq
  have HP := Lib.hid hp
  have hln : n < L.secs.length := hn
  have hds : decide ((n : Int) < 0) = false := decide_eq_false (by omega)
  have hds2 : decide (L.secs.length ≤ n) = false := decide_eq_false (by omega)
  clear hp hc hk hnp hrow hL
  unfold Lay.val
  have hd : decide (q < 0) = false := decide_eq_false (by omega)
  have hd2 : decide (np ≤ q) = false := decide_eq_false (by omega)
  go_enter Tryd.func79, Tryd.ntmps79
  go_wp2_with fail
  refine wp_region_ext (by kernel_rfl) (by kernel_rfl) fun hx => ?_
  repeat (go_big_quiet_step ((go_at_call 64; exact Calls.ext (HP.out _))))
  refine wpQuiet_nil ?_
  intro w5 b5
  obtain ⟨hc, hf, hz⟩ := bcell b5
  have B := bchain (bchain (bchain (bself (w := w) (o := _)) bself) bself) b5
  have l5 : b < w5.heap.size := hz _ (by simp; omega)
  clear b5 hz
  go_wp2
  refine bodyPost_ret (v := atV (some c)) (by simp [results, Tryd.results79, go_sem, hc, atV, Sec.enc]) rfl ⟨rfl, ?_⟩
  repeat refine Below.setCell ?_ (by dsimp only; omega) _
  exact B

/-- At, both of them, whatever is asked. -/
theorem at_cases (L : Lay) (s q : Int) : (isSec L s = false ∧ atO L s q = none) ∨ ∃ (n : Nat) (c : Sec), s = (n : Int) ∧ n < L.secs.length ∧ L.secs[n]? = some c ∧ c ∈ L.secs ∧ ((¬ (0 ≤ q ∧ q < kPorts c.k) ∧ atO L s q = none) ∨ (0 ≤ q ∧ q < kPorts c.k ∧ atO L s q = some c)) := by
  by_cases h : 0 ≤ s ∧ s < L.secs.length
  · obtain ⟨n, c, e, hn, hc, hs, hm⟩ := secAt_some h
    refine .inr ⟨n, c, e, hn, hc, hm, ?_⟩
    unfold atO
    rw [hs, Option.bind_some]
    by_cases g : 0 ≤ q ∧ q < kPorts c.k
    · exact .inr ⟨g.1, g.2, if_pos g⟩
    · exact .inl ⟨g, if_neg g⟩
  · refine .inl ⟨decide_eq_false h, ?_⟩
    unfold atO
    rw [secAt_none h]
    rfl
theorem at_any (L : Lay) (p : Where) (s q : Int) (w : World) (hL : LayAt w p L) (K : Kinds w) :
    Calls Tryd.prog 55 #[L.val p, .agg #[.int .i64 s, .int .i64 q]] w fun e w' => e = .returned (atV (atO L s q)) ∧ Below w.heap.size w w' := by
  rcases at_cases L s q with ⟨h, e⟩ | ⟨n, c, rfl, hn, hc, _, ⟨h, e⟩ | ⟨h0, h, e⟩⟩
  · rw [e]; exact at_none L p s q w h
  · rw [e]; exact at_out L p n c q w hL K hn hc h
  · rw [e]; exact at_some L p n c q w hL K hn hc h0 h
theorem rAt_any (L : Lay) (p : Where) (s q : Int) (w : World) (hL : LayAt w p L) :
    Calls Tryd.prog 79 #[L.val p, .agg #[.int .i64 s, .int .i64 q]] w fun e w' => e = .returned (atV (atO L s q)) ∧ Below w.heap.size w w' := by
  rcases at_cases L s q with ⟨h, e⟩ | ⟨n, c, rfl, hn, hc, _, ⟨h, e⟩ | ⟨h0, h, e⟩⟩
  · rw [e]; exact rAt_none L p s q w h
  · rw [e]; exact rAt_out L p n c q w hL hn hc h
  · rw [e]; exact rAt_some L p n c q w hL hn hc h0 h
end Go.Proofs.YtpnnbihofoomeaaDoor

/-
  Layouts, sections in variables.
-/
namespace Go.Proofs.YtpnnbihofoomeaaDoor
open Go.RowKit Go.Shelf

/-- A layout in a variable. -/
def BoxL (W : World) (n : Nat) (L : Lay) (p : Where) : Prop := n < W.heap.size ∧ ∀ (i : Nat) (v : Value), (L.cells p)[i]? = some v → W.cell? ⟨n, i, none⟩ = some v
theorem BoxL.below {W W' : World} {n : Nat} {L : Lay} {p : Where} (h : BoxL W n L p) (hb : Below W.heap.size W W') : BoxL W' n L p :=
  ⟨Nat.lt_of_lt_of_le h.1 hb.size, fun i v e => (hb.cell (p := ⟨n, i, none⟩) h.1).trans (h.2 i v e)⟩
theorem BoxL.make {W : World} {L : Lay} {p : Where} {n : Nat} (t : TypeId) (hn : n = W.heap.size) : BoxL (W.alloc (.cells (L.cells p).toArray t)) n L p :=
  ⟨by rw [hn]; simp, fun i v e => by rw [World.cell?_alloc_at _ _ _ _ hn]; simpa using e⟩

theorem BoxL.set {W : World} {n g o : Nat} {u : Value} {L : Lay} {p : Where} (h : BoxL W n L p) (hg : n ≠ g) : BoxL (W.setCell ⟨g, o, none⟩ u) n L p :=
  ⟨by simpa [World.setCell] using h.1, fun i v e => by rw [World.cell?_setCell_far _ _ _ _ (by simpa using hg.symm)]; exact h.2 i v e⟩
/-- A layout's variable, loaded whole. -/
theorem runLoad {dst : Option Tmp} {ty : TypeId} {pos : String} {after : Array Edge} {guard : Option (Nat × Bool)} {L : Lay} {p : Where} {n t : Nat} {ρ : Operand → Value} {W : World}
    (h : ρ (.tmp t) = .pointer (some ⟨n, 0, none⟩)) (hB : BoxL W n L p) : (execOp ρ ⟨dst, .load 29 (.tmp t), ty, pos, after, guard⟩).run Tryd.prog W = .ok (.value (L.val p)) W := by
  have c0 := hB.2 0 _ rfl
  have c1 := hB.2 1 _ rfl
  have c2 := hB.2 2 _ rfl
  have c3 := hB.2 3 _ rfl
  have c4 := hB.2 4 _ rfl
  have c5 := hB.2 5 _ rfl
  have c6 := hB.2 6 _ rfl
  have c7 := hB.2 7 _ rfl
  have c8 := hB.2 8 _ rfl
  have c9 := hB.2 9 _ rfl
  have c10 := hB.2 10 _ rfl
  simp [go_sem, h, c0, c1, c2, c3, c4, c5, c6, c7, c8, c9, c10, Lay.val]
/-- A section in a variable. -/
def BoxS (W : World) (g : Nat) (c : Sec) : Prop := g < W.heap.size ∧ ∀ (i : Nat) (v : Value), c.enc[i]? = some v → W.cell? ⟨g, i, none⟩ = some v
theorem BoxS.below {W W' : World} {g : Nat} {c : Sec} (h : BoxS W g c) (hb : Below W.heap.size W W') : BoxS W' g c :=
  ⟨Nat.lt_of_lt_of_le h.1 hb.size, fun i v e => (hb.cell (p := ⟨g, i, none⟩) h.1).trans (h.2 i v e)⟩
theorem BoxS.make (W : World) (c : Sec) : BoxS (W.alloc (.cells c.enc.toArray 69)) W.heap.size c :=
  ⟨by simp, fun i v e => by rw [World.cell?_alloc_at _ _ _ _ rfl]; simpa using e⟩
theorem BoxS.cells {W : World} {g : Nat} {c : Sec} (h : BoxS W g c) : W.cell? ⟨g, 0, none⟩ = some (.int .u8 c.k) ∧ W.cell? ⟨g, 1, none⟩ = some (.int .i64 c.s0) ∧ W.cell? ⟨g, 2, none⟩ = some (.int .i64 c.p0) ∧ W.cell? ⟨g, 3, none⟩ = some (.int .i64 c.s1) ∧ W.cell? ⟨g, 4, none⟩ = some (.int .i64 c.p1) ∧ W.cell? ⟨g, 5, none⟩ = some (.int .i64 c.s2) ∧ W.cell? ⟨g, 6, none⟩ = some (.int .i64 c.p2) ∧ W.cell? ⟨g, 7, none⟩ = some (.int .i64 c.s3) ∧ W.cell? ⟨g, 8, none⟩ = some (.int .i64 c.p3) ∧ W.cell? ⟨g, 9, none⟩ = some (.int .i64 c.c0) ∧ W.cell? ⟨g, 10, none⟩ = some (.int .i64 c.c1) :=
  ⟨h.2 0 _ rfl, h.2 1 _ rfl, h.2 2 _ rfl, h.2 3 _ rfl, h.2 4 _ rfl, h.2 5 _ rfl, h.2 6 _ rfl, h.2 7 _ rfl, h.2 8 _ rfl, h.2 9 _ rfl, h.2 10 _ rfl⟩
theorem BoxS.ports {W : World} {g : Nat} {c : Sec} (h : BoxS W g c) (m : Nat) (hm : m < 4) : W.cell? ⟨g, 1 + m * 2, none⟩ = some (.int .i64 (c.S m)) ∧ W.cell? ⟨g, 1 + m * 2 + 1, none⟩ = some (.int .i64 (c.P m)) := by
  obtain rfl | rfl | rfl | rfl : m = 0 ∨ m = 1 ∨ m = 2 ∨ m = 3 := by omega
  · exact ⟨h.2 1 _ rfl, h.2 2 _ rfl⟩
  · exact ⟨h.2 3 _ rfl, h.2 4 _ rfl⟩
  · exact ⟨h.2 5 _ rfl, h.2 6 _ rfl⟩
  · exact ⟨h.2 7 _ rfl, h.2 8 _ rfl⟩
theorem BoxS.classes {W : World} {g : Nat} {c : Sec} (h : BoxS W g c) (m : Nat) (hm : m < 2) : W.cell? ⟨g, 9 + m, none⟩ = some (.int .i64 (c.C m)) := by
  obtain rfl | rfl : m = 0 ∨ m = 1 := by omega
  · exact h.2 9 _ rfl
  · exact h.2 10 _ rfl
theorem BoxL.cells {W : World} {g : Nat} {L : Lay} {p : Where} (h : BoxL W g L p) : W.cell? ⟨g, 0, none⟩ = some (.slice p.a0 L.secs.length p.c0) ∧ W.cell? ⟨g, 1, none⟩ = some (.slice p.a1 L.sigs.length p.c1) ∧ W.cell? ⟨g, 2, none⟩ = some (.slice p.a2 L.exits.length p.c2) ∧ W.cell? ⟨g, 3, none⟩ = some (.slice p.a3 L.flanks.length p.c3) ∧ W.cell? ⟨g, 4, none⟩ = some (.int .i64 L.t0) ∧ W.cell? ⟨g, 5, none⟩ = some (.int .i64 L.t1) ∧ W.cell? ⟨g, 6, none⟩ = some (.int .i64 L.t2) ∧ W.cell? ⟨g, 7, none⟩ = some (.int .i64 L.t3) ∧ W.cell? ⟨g, 8, none⟩ = some (.int .i64 L.t4) ∧ W.cell? ⟨g, 9, none⟩ = some (.int .i64 L.t5) ∧ W.cell? ⟨g, 10, none⟩ = some (.int .i64 L.t6) :=
  ⟨h.2 0 _ rfl, h.2 1 _ rfl, h.2 2 _ rfl, h.2 3 _ rfl, h.2 4 _ rfl, h.2 5 _ rfl, h.2 6 _ rfl, h.2 7 _ rfl, h.2 8 _ rfl, h.2 9 _ rfl, h.2 10 _ rfl⟩
end Go.Proofs.YtpnnbihofoomeaaDoor

/-
  layout.Step; lockbarref06.there, Step.
-/
namespace Go.Proofs.YtpnnbihofoomeaaDoor
open Go.RowKit Go.Shelf

set_option maxRecDepth 100000 in
set_option maxHeartbeats 2000000 in
theorem step_none (L : Lay) (p : Where) (s i o : Int) (w : World) (hs : isSec L s = false) :
    Calls Tryd.prog 46 #[L.val p, .agg #[.int .i64 s, .int .i64 i, .int .i64 o]] w fun e w' => e = .returned (.tuple #[.int .i64 0, .bool false]) ∧ Below w.heap.size w w' := by
  have hc := fun w1 => section_any L p s w1
  rw [hs] at hc
  have HC := Lib.hid hc
  clear hc hs
  unfold Lay.val
  go_enter Tryd.func46, Tryd.ntmps46
  go_wp2_with fail
  (with_reducible refine (HC.out _).mono ?_)
  rintro e w1 ⟨rfl, b1⟩
  go_wp2
  go_ret2
  exact ⟨rfl, bchain (bchain bself bself) b1⟩

set_option maxRecDepth 100000 in
set_option maxHeartbeats 2000000 in
theorem step_some (L : Lay) (p : Where) (n : Nat) (c : Sec) (i o : Int) (w : World) (hL : LayAt w p L) (K : Kinds w) (hn : n < L.secs.length) (hc : L.secs[n]? = some c) :
    Calls Tryd.prog 46 #[L.val p, .agg #[.int .i64 n, .int .i64 i, .int .i64 o]] w fun e w' => e = .returned (.tuple #[.int .i64 (wayN c.k i o), .bool (wayB c.k i o)]) ∧ Below w.heap.size w w' := by
  have hs := fun w1 => section_any L p n w1
  rw [show isSec L n = true from decide_eq_true (by omega)] at hs
  obtain ⟨a0, a1, a2, a3, p0, p1, p2, p3⟩ := p
  obtain ⟨b, off, e0, hrow⟩ := hL.secs.get hn
  dsimp only at e0
  subst e0
  have l0 := hrow.1
  have l1 : b < w.heap.size + 1 := by omega
  have l2 : b < w.heap.size + 1 + 1 := by omega
  have l3 : b < w.heap.size + 1 + 1 + 1 := by omega
  obtain ⟨k0, k1, k2, k3, k4, k5, k6, k7, k8, k9, k10⟩ := sec_cells hrow hc
  have hk := hL.kinds c (List.mem_of_getElem? hc)
  have hp := fun w1 (K1 : Kinds w1) => way_any c.k i o hk.1 hk.2 w1 K1
  have HS := Lib.hid hs
  have HP := Lib.hid hp
  have KH := Lib.hid K
  have hln : n < L.secs.length := hn
  clear hs hp hc hk hrow K hL
  unfold Lay.val
  go_enter Tryd.func46, Tryd.ntmps46
  go_wp2_with fail
  (with_reducible refine (HS.out _).mono ?_)
  rintro e w1 ⟨rfl, b1⟩
  obtain ⟨hc, hf, hz⟩ := bcell b1
  have lz : b < w1.heap.size := hz _ (by simp <;> omega)
  have z0 : w.heap.size < w1.heap.size := hz _ (by simp <;> omega)
  have z1 : w.heap.size + 1 < w1.heap.size := hz _ (by simp <;> omega)
  have B := bchain (bchain (bself (w := w) (o := _)) bself) b1
  have HB := Lib.hid B
  clear b1 hz B
  go_wp2_with fail
  refine wp_region_ext (by kernel_rfl) (by kernel_rfl) fun hx => ?_
  repeat (go_big_quiet_step ((go_at_call 83; exact Calls.ext (HP.out _ (KH.out.below (bchain HB.out (Ext.below _)))))))
  refine wpQuiet_nil ?_
  intro w5 b5
  go_wp2
  go_ret2
  exact ⟨rfl, bchain HB.out b5⟩

set_option maxRecDepth 100000 in
set_option maxHeartbeats 2000000 in
theorem rStep_none (L : Lay) (p : Where) (s i o : Int) (w : World) (hs : isSec L s = false) :
    Calls Tryd.prog 80 #[L.val p, .agg #[.int .i64 s, .int .i64 i, .int .i64 o]] w fun e w' => e = .returned (.tuple #[.int .i64 0, .bool false]) ∧ Below w.heap.size w w' := by
  have hs2 : s < 0 ∨ (¬ s < 0 ∧ (L.secs.length : Int) ≤ s) := by
    have := of_decide_eq_false hs
    omega
  clear hs
  unfold Lay.val
  rcases hs2 with h | ⟨h, h2⟩
  · have hd : decide (s < 0) = true := decide_eq_true h
    go_enter Tryd.func80, Tryd.ntmps80
    go_wp2
    go_ret2
    exact ⟨rfl, bchain bself bself⟩
  · have hd : decide (s < 0) = false := decide_eq_false h
    have hd2 : decide ((L.secs.length : Int) ≤ s) = true := decide_eq_true h2
    go_enter Tryd.func80, Tryd.ntmps80
    go_wp2
    go_ret2
    exact ⟨rfl, bchain bself bself⟩

set_option maxRecDepth 100000 in
set_option maxHeartbeats 2000000 in
theorem rStep_some (L : Lay) (p : Where) (n : Nat) (c : Sec) (i o : Int) (w : World) (hL : LayAt w p L) (hn : n < L.secs.length) (hc : L.secs[n]? = some c) :
    Calls Tryd.prog 80 #[L.val p, .agg #[.int .i64 n, .int .i64 i, .int .i64 o]] w fun e w' => e = .returned (.tuple #[.int .i64 (wayN c.k i o), .bool (wayB c.k i o)]) ∧ Below w.heap.size w w' := by
  obtain ⟨a0, a1, a2, a3, p0, p1, p2, p3⟩ := p
  obtain ⟨b, off, e0, hrow⟩ := hL.secs.get hn
  dsimp only at e0
  subst e0
  have l0 := hrow.1
  have l1 : b < w.heap.size + 1 := by omega
  have l2 : b < w.heap.size + 1 + 1 := by omega
  have l3 : b < w.heap.size + 1 + 1 + 1 := by omega
  obtain ⟨k0, k1, k2, k3, k4, k5, k6, k7, k8, k9, k10⟩ := sec_cells hrow hc
  have hk := hL.kinds c (List.mem_of_getElem? hc)
  have hp := fun w1 => rWay_any c.k i o w1
  have HP := Lib.hid hp
  have hln : n < L.secs.length := hn
  have hds : decide ((n : Int) < 0) = false := decide_eq_false (by omega)
  have hds2 : decide (L.secs.length ≤ n) = false := decide_eq_false (by omega)
  clear hp hc hk hrow hL
  unfold Lay.val
  go_enter Tryd.func80, Tryd.ntmps80
  go_wp2_with fail
  refine wp_region_ext (by kernel_rfl) (by kernel_rfl) fun hx => ?_
  repeat (go_big_quiet_step ((go_at_call 95; exact Calls.ext (HP.out _))))
  refine wpQuiet_nil ?_
  intro w5 b5
  go_wp2
  go_ret2
  exact ⟨rfl, bchain (bchain bself bself) b5⟩

theorem step_cases (L : Lay) (s i o : Int) : (isSec L s = false ∧ stepN L s i o = 0 ∧ stepB L s i o = false) ∨ ∃ (n : Nat) (c : Sec), s = (n : Int) ∧ n < L.secs.length ∧ L.secs[n]? = some c ∧ c ∈ L.secs ∧ stepN L s i o = wayN c.k i o ∧ stepB L s i o = wayB c.k i o := by
  by_cases h : 0 ≤ s ∧ s < L.secs.length
  · obtain ⟨n, c, e, hn, hc, hs, hm⟩ := secAt_some h
    refine .inr ⟨n, c, e, hn, hc, hm, ?_⟩
    unfold stepN stepB
    rw [hs]
    exact ⟨rfl, rfl⟩
  · refine .inl ⟨decide_eq_false h, ?_⟩
    unfold stepN stepB
    rw [secAt_none h]
    exact ⟨rfl, rfl⟩
theorem step_any (L : Lay) (p : Where) (s i o : Int) (w : World) (hL : LayAt w p L) (K : Kinds w) :
    Calls Tryd.prog 46 #[L.val p, .agg #[.int .i64 s, .int .i64 i, .int .i64 o]] w fun e w' => e = .returned (.tuple #[.int .i64 (stepN L s i o), .bool (stepB L s i o)]) ∧ Below w.heap.size w w' := by
  rcases step_cases L s i o with ⟨h, e, f⟩ | ⟨n, c, rfl, hn, hc, _, e, f⟩
  · rw [e, f]; exact step_none L p s i o w h
  · rw [e, f]; exact step_some L p n c i o w hL K hn hc
theorem rStep_any (L : Lay) (p : Where) (s i o : Int) (w : World) (hL : LayAt w p L) :
    Calls Tryd.prog 80 #[L.val p, .agg #[.int .i64 s, .int .i64 i, .int .i64 o]] w fun e w' => e = .returned (.tuple #[.int .i64 (stepN L s i o), .bool (stepB L s i o)]) ∧ Below w.heap.size w w' := by
  rcases step_cases L s i o with ⟨h, e, f⟩ | ⟨n, c, rfl, hn, hc, _, e, f⟩
  · rw [e, f]; exact rStep_none L p s i o w h
  · rw [e, f]; exact rStep_some L p n c i o w hL hn hc

/-- Is the port there? -/
def hasB (L : Lay) (s q : Int) : Bool := (atO L s q).isSome
set_option maxRecDepth 100000 in
set_option maxHeartbeats 2000000 in
theorem rThere_any (L : Lay) (p : Where) (s q : Int) (w : World) (hL : LayAt w p L) :
    Calls Tryd.prog 39 #[L.val p, .agg #[.int .i64 s, .int .i64 q]] w fun e w' => e = .returned (.bool (hasB L s q)) ∧ Below w.heap.size w w' := by
  have ha := fun w1 (L1 : LayAt w1 p L) => rAt_any L p s q w1 L1
  unfold atV at ha
  unfold hasB
  obtain ⟨x, hx⟩ : ∃ x, x = (atO L s q).getD zeroSec := ⟨_, rfl⟩
  obtain ⟨y, hy⟩ : ∃ y, y = (atO L s q).isSome := ⟨_, rfl⟩
  rw [← hx, ← hy] at ha
  rw [← hy]
  unfold Sec.enc at ha
  have HA := Lib.hid ha
  have HL := Lib.hid hL
  clear ha hx hy hL
  unfold Lay.val
  go_enter Tryd.func39, Tryd.ntmps39
  go_wp2_with fail
  (with_reducible refine (HA.out _ (HL.out.below (bchain bself bself))).mono ?_)
  rintro e w1 ⟨rfl, b1⟩
  go_wp2
  go_ret
  exact ⟨rfl, bchain (bchain (bchain bself bself) b1) bself⟩
end Go.Proofs.YtpnnbihofoomeaaDoor

/-
  slices.IndexFunc, slices.ContainsFunc at the structs of a layout, whatever the predicate.
-/
namespace Go.Proofs.YtpnnbihofoomeaaDoor
open Go.RowKit Go.Shelf

/-- A predicate: it may lay blocks of its own, and leaves all else as it was. -/
def PB {α : Type} (g : Nat) (lb : Array Value) (enc : α → List Value) (p : α → Bool) (xs : List α) (w : World) : Prop :=
  ∀ (W : World) (x : α), x ∈ xs → Below w.heap.size w W → Calls Tryd.prog g (#[.agg (enc x).toArray] ++ lb) W fun e w' => e = .returned (.bool (p x)) ∧ Below W.heap.size W w'
/-- The first one of which p holds. -/
def idxOf' {α : Type} (p : α → Bool) (xs : List α) : Int := match xs.findIdx? p with
  | some i => (i : Int)
  | none => -1
theorem idx_hit {α : Type} {p : α → Bool} {xs : List α} {n : Nat} {x : α} (hx : xs[n]? = some x) (h : p x = true) (ha : ∀ j, j < n → ∀ y, xs[j]? = some y → p y = false) : idxOf' p xs = n := by
  obtain ⟨hn, e⟩ := List.getElem?_eq_some_iff.1 hx
  have : xs.findIdx? p = some n := by
    rw [List.findIdx?_eq_some_iff_getElem]
    refine ⟨hn, by rw [e]; exact h, fun j hj => ?_⟩
    have hjl : j < xs.length := by omega
    rw [ha j hj xs[j] (List.getElem?_eq_getElem hjl)]
    simp
  unfold idxOf'
  rw [this]
theorem idx_miss {α : Type} {p : α → Bool} {xs : List α} (ha : ∀ j, j < xs.length → ∀ y, xs[j]? = some y → p y = false) : idxOf' p xs = -1 := by
  have : xs.findIdx? p = none := by
    rw [List.findIdx?_eq_none_iff]
    intro x hx
    obtain ⟨j, hj, e⟩ := List.mem_iff_getElem.1 hx
    exact ha j hj x (by rw [← e]; exact List.getElem?_eq_getElem hj)
  unfold idxOf'
  rw [this]
theorem idx_any {α : Type} {p : α → Bool} {xs : List α} : decide (0 ≤ idxOf' p xs) = xs.any p := by
  unfold idxOf'
  cases h : xs.findIdx? p with
  | none =>
    rw [List.findIdx?_eq_none_iff] at h
    simp only [show decide ((0 : Int) ≤ -1) = false by decide]
    symm
    rw [List.any_eq_false]
    intro x hx
    simp [h x hx]
  | some i =>
    obtain ⟨hi, hp, _⟩ := List.findIdx?_eq_some_iff_getElem.1 h
    rw [decide_eq_true (show (0 : Int) ≤ (i : Int) by omega)]
    symm
    rw [List.any_eq_true]
    exact ⟨xs[i], List.getElem_mem hi, hp⟩

set_option maxRecDepth 100000 in
set_option maxHeartbeats 2000000 in
theorem indexSection_any (g : Nat) (lb : Array Value) (eg : ∀ args w, (callFunc g args).run Tryd.prog w = .ok (.enter g args) w) (p : Sec → Bool) (A : Option Addr) (cap : Nat) (xs : List Sec) (w : World) (hA : At w 11 Sec.enc A xs) (hl : xs.length ≤ cap) (hm : cap ≤ 9223372036854775807)
    (hp : PB g lb Sec.enc p xs w) :
    Calls Tryd.prog 84 #[.slice A xs.length cap, .func (.func g) #[] lb] w fun e w' => e = .returned (.int .i64 (idxOf' p xs)) ∧ Below w.heap.size w w' := by
  have HX := Lib.hid (⟨fun n x => idx_hit (p := p) (xs := xs) (n := n) (x := x), idx_miss (p := p) (xs := xs)⟩ : _ ∧ _)
  generalize idxOf' p xs = r at HX
  obtain ⟨len, hlen⟩ : ∃ len, len = xs.length := ⟨_, rfl⟩
  have HLN := Lib.hid hlen
  have HA := Lib.hid hA
  have HP := Lib.hid hp
  rw [← hlen] at hl ⊢
  clear hA hp hlen
  go_enter Tryd.func84, Tryd.ntmps84
  go_wp2
  go_loopg [5, 8] len (fun gg _ s8 wr => ∃ n : Nat, n ≤ len ∧ len - n ≤ gg ∧ s8 = .int .i64 n ∧ Hid (Below w.heap.size w wr) ∧ Hid (∀ j, j < n → ∀ y, xs[j]? = some y → p y = false))
  case atStart => exact ⟨0, Nat.zero_le _, by omega, rfl, Lib.hid (Below.refl _ w), Lib.hid (fun j hj => absurd hj (Nat.not_lt_zero _))⟩
  case round =>
    obtain ⟨n, hn, hg, rfl, HB, HJ⟩ := hrel
    by_cases hlt : n < len
    · obtain ⟨b, off, hAe, h0, hrow⟩ := HA.out.get (by rw [← HLN.out]; exact hlt)
      subst hAe
      obtain ⟨x, hx⟩ : ∃ x, xs[n]? = some x := ⟨xs[n]'(by rw [← HLN.out]; exact hlt), List.getElem?_eq_getElem _⟩
      have hcall := HP.out wr x (List.mem_of_getElem? hx) HB.out
      have c0 := (HB.out.cell (p := ⟨b, off + n * 11, none⟩) h0).trans (hrow n x hx 0 _ rfl)
      have c1 := (HB.out.cell (p := ⟨b, off + n * 11 + 1, none⟩) h0).trans (hrow n x hx 1 _ rfl)
      have c2 := (HB.out.cell (p := ⟨b, off + n * 11 + 2, none⟩) h0).trans (hrow n x hx 2 _ rfl)
      have c3 := (HB.out.cell (p := ⟨b, off + n * 11 + 3, none⟩) h0).trans (hrow n x hx 3 _ rfl)
      have c4 := (HB.out.cell (p := ⟨b, off + n * 11 + 4, none⟩) h0).trans (hrow n x hx 4 _ rfl)
      have c5 := (HB.out.cell (p := ⟨b, off + n * 11 + 5, none⟩) h0).trans (hrow n x hx 5 _ rfl)
      have c6 := (HB.out.cell (p := ⟨b, off + n * 11 + 6, none⟩) h0).trans (hrow n x hx 6 _ rfl)
      have c7 := (HB.out.cell (p := ⟨b, off + n * 11 + 7, none⟩) h0).trans (hrow n x hx 7 _ rfl)
      have c8 := (HB.out.cell (p := ⟨b, off + n * 11 + 8, none⟩) h0).trans (hrow n x hx 8 _ rfl)
      have c9 := (HB.out.cell (p := ⟨b, off + n * 11 + 9, none⟩) h0).trans (hrow n x hx 9 _ rfl)
      have c10 := (HB.out.cell (p := ⟨b, off + n * 11 + 10, none⟩) h0).trans (hrow n x hx 10 _ rfl)
      have lb' : b < wr.heap.size := Nat.lt_of_lt_of_le h0 HB.out.size
      obtain ⟨y, hy⟩ : ∃ y, y = p x := ⟨_, rfl⟩
      rw [← hy] at hcall
      have HXX := Lib.hid (⟨hx, hy⟩ : _ ∧ _)
      have HC := Lib.hid hcall
      clear hrow hx hy hcall HA
      go_wp2_with fail
      refine (HC.out).mono ?_
      rintro e w1 ⟨rfl, b1⟩
      have HB1 := Lib.hid (bchain HB.out b1)
      clear b1 HB
      cases y with
      | true =>
        go_wp2
        go_ret
        obtain rfl := HX.out.1 n x HXX.out.1 HXX.out.2.symm HJ.out
        exact ⟨rfl, HB1.out⟩
      | false =>
        go_wp2
        go_roundg (len - (n + 1))
        case measure => omega
        case rel =>
          refine ⟨n + 1, by omega, by omega, by go_num, HB1, Lib.hid (fun j hj z hz => ?_)⟩
          by_cases e : j = n
          · subst e
            rw [HXX.out.1] at hz
            cases hz
            exact HXX.out.2.symm
          · exact HJ.out j (by omega) z hz
    · obtain rfl : n = len := by omega
      go_wp2
      go_ret
      obtain rfl := HX.out.2 (fun j hj => HJ.out j (by rw [HLN.out]; exact hj))
      exact ⟨rfl, HB.out⟩

set_option maxRecDepth 100000 in
set_option maxHeartbeats 2000000 in
theorem indexFlank_any (g : Nat) (lb : Array Value) (eg : ∀ args w, (callFunc g args).run Tryd.prog w = .ok (.enter g args) w) (p : Flk → Bool) (A : Option Addr) (cap : Nat) (xs : List Flk) (w : World) (hA : At w 4 Flk.enc A xs) (hl : xs.length ≤ cap) (hm : cap ≤ 9223372036854775807)
    (hp : PB g lb Flk.enc p xs w) :
    Calls Tryd.prog 85 #[.slice A xs.length cap, .func (.func g) #[] lb] w fun e w' => e = .returned (.int .i64 (idxOf' p xs)) ∧ Below w.heap.size w w' := by
  have HX := Lib.hid (⟨fun n x => idx_hit (p := p) (xs := xs) (n := n) (x := x), idx_miss (p := p) (xs := xs)⟩ : _ ∧ _)
  generalize idxOf' p xs = r at HX
  obtain ⟨len, hlen⟩ : ∃ len, len = xs.length := ⟨_, rfl⟩
  have HLN := Lib.hid hlen
  have HA := Lib.hid hA
  have HP := Lib.hid hp
  rw [← hlen] at hl ⊢
  clear hA hp hlen
  go_enter Tryd.func85, Tryd.ntmps85
  go_wp2
  go_loopg [5, 8] len (fun gg _ s8 wr => ∃ n : Nat, n ≤ len ∧ len - n ≤ gg ∧ s8 = .int .i64 n ∧ Hid (Below w.heap.size w wr) ∧ Hid (∀ j, j < n → ∀ y, xs[j]? = some y → p y = false))
  case atStart => exact ⟨0, Nat.zero_le _, by omega, rfl, Lib.hid (Below.refl _ w), Lib.hid (fun j hj => absurd hj (Nat.not_lt_zero _))⟩
  case round =>
    obtain ⟨n, hn, hg, rfl, HB, HJ⟩ := hrel
    by_cases hlt : n < len
    · obtain ⟨b, off, hAe, h0, hrow⟩ := HA.out.get (by rw [← HLN.out]; exact hlt)
      subst hAe
      obtain ⟨x, hx⟩ : ∃ x, xs[n]? = some x := ⟨xs[n]'(by rw [← HLN.out]; exact hlt), List.getElem?_eq_getElem _⟩
      have hcall := HP.out wr x (List.mem_of_getElem? hx) HB.out
      have c0 := (HB.out.cell (p := ⟨b, off + n * 4, none⟩) h0).trans (hrow n x hx 0 _ rfl)
      have c1 := (HB.out.cell (p := ⟨b, off + n * 4 + 1, none⟩) h0).trans (hrow n x hx 1 _ rfl)
      have c2 := (HB.out.cell (p := ⟨b, off + n * 4 + 2, none⟩) h0).trans (hrow n x hx 2 _ rfl)
      have c3 := (HB.out.cell (p := ⟨b, off + n * 4 + 3, none⟩) h0).trans (hrow n x hx 3 _ rfl)
      have lb' : b < wr.heap.size := Nat.lt_of_lt_of_le h0 HB.out.size
      obtain ⟨y, hy⟩ : ∃ y, y = p x := ⟨_, rfl⟩
      rw [← hy] at hcall
      have HXX := Lib.hid (⟨hx, hy⟩ : _ ∧ _)
      have HC := Lib.hid hcall
      clear hrow hx hy hcall HA
      go_wp2_with fail
      refine (HC.out).mono ?_
      rintro e w1 ⟨rfl, b1⟩
      have HB1 := Lib.hid (bchain HB.out b1)
      clear b1 HB
      cases y with
      | true =>
        go_wp2
        go_ret
        obtain rfl := HX.out.1 n x HXX.out.1 HXX.out.2.symm HJ.out
        exact ⟨rfl, HB1.out⟩
      | false =>
        go_wp2
        go_roundg (len - (n + 1))
        case measure => omega
        case rel =>
          refine ⟨n + 1, by omega, by omega, by go_num, HB1, Lib.hid (fun j hj z hz => ?_)⟩
          by_cases e : j = n
          · subst e
            rw [HXX.out.1] at hz
            cases hz
            exact HXX.out.2.symm
          · exact HJ.out j (by omega) z hz
    · obtain rfl : n = len := by omega
      go_wp2
      go_ret
      obtain rfl := HX.out.2 (fun j hj => HJ.out j (by rw [HLN.out]; exact hj))
      exact ⟨rfl, HB.out⟩

set_option maxRecDepth 100000 in
set_option maxHeartbeats 2000000 in
theorem indexStep_any (g : Nat) (lb : Array Value) (eg : ∀ args w, (callFunc g args).run Tryd.prog w = .ok (.enter g args) w) (p : Stp → Bool) (A : Option Addr) (cap : Nat) (xs : List Stp) (w : World) (hA : At w 3 Stp.enc A xs) (hl : xs.length ≤ cap) (hm : cap ≤ 9223372036854775807)
    (hp : PB g lb Stp.enc p xs w) :
    Calls Tryd.prog 88 #[.slice A xs.length cap, .func (.func g) #[] lb] w fun e w' => e = .returned (.int .i64 (idxOf' p xs)) ∧ Below w.heap.size w w' := by
  have HX := Lib.hid (⟨fun n x => idx_hit (p := p) (xs := xs) (n := n) (x := x), idx_miss (p := p) (xs := xs)⟩ : _ ∧ _)
  generalize idxOf' p xs = r at HX
  obtain ⟨len, hlen⟩ : ∃ len, len = xs.length := ⟨_, rfl⟩
  have HLN := Lib.hid hlen
  have HA := Lib.hid hA
  have HP := Lib.hid hp
  rw [← hlen] at hl ⊢
  clear hA hp hlen
  go_enter Tryd.func88, Tryd.ntmps88
  go_wp2
  go_loopg [5, 8] len (fun gg _ s8 wr => ∃ n : Nat, n ≤ len ∧ len - n ≤ gg ∧ s8 = .int .i64 n ∧ Hid (Below w.heap.size w wr) ∧ Hid (∀ j, j < n → ∀ y, xs[j]? = some y → p y = false))
  case atStart => exact ⟨0, Nat.zero_le _, by omega, rfl, Lib.hid (Below.refl _ w), Lib.hid (fun j hj => absurd hj (Nat.not_lt_zero _))⟩
  case round =>
    obtain ⟨n, hn, hg, rfl, HB, HJ⟩ := hrel
    by_cases hlt : n < len
    · obtain ⟨b, off, hAe, h0, hrow⟩ := HA.out.get (by rw [← HLN.out]; exact hlt)
      subst hAe
      obtain ⟨x, hx⟩ : ∃ x, xs[n]? = some x := ⟨xs[n]'(by rw [← HLN.out]; exact hlt), List.getElem?_eq_getElem _⟩
      have hcall := HP.out wr x (List.mem_of_getElem? hx) HB.out
      have c0 := (HB.out.cell (p := ⟨b, off + n * 3, none⟩) h0).trans (hrow n x hx 0 _ rfl)
      have c1 := (HB.out.cell (p := ⟨b, off + n * 3 + 1, none⟩) h0).trans (hrow n x hx 1 _ rfl)
      have c2 := (HB.out.cell (p := ⟨b, off + n * 3 + 2, none⟩) h0).trans (hrow n x hx 2 _ rfl)
      have lb' : b < wr.heap.size := Nat.lt_of_lt_of_le h0 HB.out.size
      obtain ⟨y, hy⟩ : ∃ y, y = p x := ⟨_, rfl⟩
      rw [← hy] at hcall
      have HXX := Lib.hid (⟨hx, hy⟩ : _ ∧ _)
      have HC := Lib.hid hcall
      clear hrow hx hy hcall HA
      go_wp2_with fail
      refine (HC.out).mono ?_
      rintro e w1 ⟨rfl, b1⟩
      have HB1 := Lib.hid (bchain HB.out b1)
      clear b1 HB
      cases y with
      | true =>
        go_wp2
        go_ret
        obtain rfl := HX.out.1 n x HXX.out.1 HXX.out.2.symm HJ.out
        exact ⟨rfl, HB1.out⟩
      | false =>
        go_wp2
        go_roundg (len - (n + 1))
        case measure => omega
        case rel =>
          refine ⟨n + 1, by omega, by omega, by go_num, HB1, Lib.hid (fun j hj z hz => ?_)⟩
          by_cases e : j = n
          · subst e
            rw [HXX.out.1] at hz
            cases hz
            exact HXX.out.2.symm
          · exact HJ.out j (by omega) z hz
    · obtain rfl : n = len := by omega
      go_wp2
      go_ret
      obtain rfl := HX.out.2 (fun j hj => HJ.out j (by rw [HLN.out]; exact hj))
      exact ⟨rfl, HB.out⟩

theorem containsSection_any (g : Nat) (lb : Array Value) (eg : ∀ args w, (callFunc g args).run Tryd.prog w = .ok (.enter g args) w) (p : Sec → Bool) (A : Option Addr) (cap : Nat) (xs : List Sec) (w : World) (hA : At w 11 Sec.enc A xs) (hl : xs.length ≤ cap) (hm : cap ≤ 9223372036854775807)
    (hp : PB g lb Sec.enc p xs w) :
    Calls Tryd.prog 52 #[.slice A xs.length cap, .func (.func g) #[] lb] w fun e w' => e = .returned (.bool (xs.any p)) ∧ Below w.heap.size w w' := by
  have hc := indexSection_any g lb eg p A cap xs w hA hl hm hp
  rw [← idx_any]
  generalize idxOf' p xs = r at hc ⊢
  have HC := Lib.hid hc
  clear hc hA hl hm hp
  go_enter Tryd.func52, Tryd.ntmps52
  go_wp2_with fail
  refine HC.out.mono ?_
  rintro e w1 ⟨rfl, b1⟩
  go_wp2
  go_ret
  exact ⟨rfl, b1⟩

theorem containsFlank_any (g : Nat) (lb : Array Value) (eg : ∀ args w, (callFunc g args).run Tryd.prog w = .ok (.enter g args) w) (p : Flk → Bool) (A : Option Addr) (cap : Nat) (xs : List Flk) (w : World) (hA : At w 4 Flk.enc A xs) (hl : xs.length ≤ cap) (hm : cap ≤ 9223372036854775807)
    (hp : PB g lb Flk.enc p xs w) :
    Calls Tryd.prog 53 #[.slice A xs.length cap, .func (.func g) #[] lb] w fun e w' => e = .returned (.bool (xs.any p)) ∧ Below w.heap.size w w' := by
  have hc := indexFlank_any g lb eg p A cap xs w hA hl hm hp
  rw [← idx_any]
  generalize idxOf' p xs = r at hc ⊢
  have HC := Lib.hid hc
  clear hc hA hl hm hp
  go_enter Tryd.func53, Tryd.ntmps53
  go_wp2_with fail
  refine HC.out.mono ?_
  rintro e w1 ⟨rfl, b1⟩
  go_wp2
  go_ret
  exact ⟨rfl, b1⟩

theorem containsStep_any (g : Nat) (lb : Array Value) (eg : ∀ args w, (callFunc g args).run Tryd.prog w = .ok (.enter g args) w) (p : Stp → Bool) (A : Option Addr) (cap : Nat) (xs : List Stp) (w : World) (hA : At w 3 Stp.enc A xs) (hl : xs.length ≤ cap) (hm : cap ≤ 9223372036854775807)
    (hp : PB g lb Stp.enc p xs w) :
    Calls Tryd.prog 56 #[.slice A xs.length cap, .func (.func g) #[] lb] w fun e w' => e = .returned (.bool (xs.any p)) ∧ Below w.heap.size w w' := by
  have hc := indexStep_any g lb eg p A cap xs w hA hl hm hp
  rw [← idx_any]
  generalize idxOf' p xs = r at hc ⊢
  have HC := Lib.hid hc
  clear hc hA hl hm hp
  go_enter Tryd.func56, Tryd.ntmps56
  go_wp2_with fail
  refine HC.out.mono ?_
  rintro e w1 ⟨rfl, b1⟩
  go_wp2
  go_ret
  exact ⟨rfl, b1⟩
end Go.Proofs.YtpnnbihofoomeaaDoor

/-
  layout.Signal, Exit; lockbarref06.Signal, Exit, Great.
-/
namespace Go.Proofs.YtpnnbihofoomeaaDoor
open Go.RowKit Go.Shelf

def sameP (a b s q : Int) : Bool := decide (a = s ∧ b = q)
def sigIx (L : Lay) (s q : Int) : Int := idxOf' (fun x : Prt => sameP x.s x.p s q) L.sigs
def exIx (L : Lay) (s q : Int) : Int := idxOf' (fun x : Ext' => sameP x.s x.p s q) L.exits
theorem idx_map {α β : Type} (f : α → β) (p : β → Bool) (xs : List α) : idxOf' (fun x => p (f x)) xs = idxOf' p (xs.map f) := by
  unfold idxOf'
  rw [List.findIdx?_map]
  rfl
theorem sameP_t {a b s q : Int} (h : a = s ∧ b = q) : sameP a b s q = true := decide_eq_true h
theorem sameP_f {a b s q : Int} (h : ¬ (a = s ∧ b = q)) : sameP a b s q = false := decide_eq_false h

end Go.Proofs.YtpnnbihofoomeaaDoor

/-
  lockbarref06.Great; the closures of layout.Right; slices.Min, Max.
-/
namespace Go.Proofs.YtpnnbihofoomeaaDoor
open Go.RowKit Go.Shelf

/-- Some truth value comes back. -/
def SomeBool (w : World) (e : Ending) (w' : World) : Prop := ∃ b : Bool, e = .returned (.bool b) ∧ Below w.heap.size w w'
theorem someBool {w : World} {w' : World} (b : Bool) (h : Below w.heap.size w w') : SomeBool w (.returned (.bool b)) w' := ⟨b, rfl, h⟩

set_option maxRecDepth 100000 in
set_option maxHeartbeats 2000000 in
theorem rGreat_any (L : Lay) (p : Where) (w : World) (hL : LayAt w p L) : Calls Tryd.prog 7 #[L.val p] w (SomeBool w) := by
  have hm0 : L.secs.length ≤ 9223372036854775807 := Nat.le_trans hL.l0.1 hL.l0.2
  have hm1 : L.sigs.length ≤ 9223372036854775807 := Nat.le_trans hL.l1.1 hL.l1.2
  have hm : L.exits.length ≤ 9223372036854775807 := Nat.le_trans hL.l2.1 hL.l2.2
  have hm3 : L.flanks.length ≤ 9223372036854775807 := Nat.le_trans hL.l3.1 hL.l3.2
  obtain ⟨a0, a1, a2, a3, p0, p1, p2, p3⟩ := p
  have HL := Lib.hid hL
  clear hL
  unfold Lay.val
  go_enter Tryd.func7, Tryd.ntmps7
  go_wp2_with fail
  go_loop [3] (fun s3 => ∃ n : Nat, n ≤ L.exits.length ∧ s3 = .int .i64 n) (fun s3 => L.exits.length - (intOf s3).toNat)
  case atStart => exact ⟨0, Nat.zero_le _, rfl⟩
  case round =>
    obtain ⟨n, hn, rfl⟩ := hrel
    by_cases hlt : n < L.exits.length
    · by_cases h30 : n ≤ 30
      · obtain ⟨es, hes, hAt, hov⟩ := HL.out.exits
        have hlen : es.length = L.exits.length := by rw [← hes, List.length_map]
        obtain ⟨b, off, hAe, h0, hrow⟩ := hAt.get (j := n) (by omega)
        subst hAe
        obtain ⟨y, hy⟩ : ∃ y, es[n]? = some y := ⟨es[n]'(by omega), List.getElem?_eq_getElem (by omega)⟩
        have g2 := hrow n y hy 2 _ rfl
        obtain ⟨A, cap, e2, hcap, hmax, _⟩ := hov y (List.mem_of_getElem? hy)
        rw [e2] at g2
        obtain ⟨m, hmv⟩ : ∃ m, m = y.1.over.length := ⟨_, rfl⟩
        rw [← hmv] at g2 hcap
        have hmm : m ≤ 9223372036854775807 := Nat.le_trans hcap hmax
        clear hrow hy hes hAt hov hlen e2 hcap hmax hmv HL
        have d30 : decide ((n : Int) ≤ 30) = true := decide_eq_true (by omega)
        by_cases h20 : 20 < m
        · have d20 : decide ((20 : Int) < (m : Int)) = true := decide_eq_true (by omega)
          go_wp2
          go_ret
          exact someBool _ bself
        · have d20 : decide ((20 : Int) < (m : Int)) = false := decide_eq_false (by omega)
          go_wp2
          go_round
          case rel => exact ⟨n + 1, by omega, by go_num⟩
          case measure => simp [intOf]; omega
      · clear HL
        have d30 : decide ((n : Int) ≤ 30) = false := decide_eq_false (by omega)
        have x30 : (30 : Int) < (L.exits.length : Int) := by omega
        go_wp2
        all_goals
          go_ret
          exact someBool _ bself
    · obtain rfl : n = L.exits.length := by omega
      clear HL
      go_wp2
      all_goals
        go_ret
        exact someBool _ bself

/-- May a section be, as a plain test. -/
def mayT (s q : Int) : Bool := (s == -1 && q == 0) || (decide (0 ≤ s) && decide (s < 24) && decide (0 ≤ q) && decide (q ≤ 3))
theorem mayT_eq (s q : Int) : mayB s q = mayT s q := by
  rw [Bool.eq_iff_iff]
  unfold mayB mayT
  simp
  omega
def portT (c : Sec) (i : Nat) : Bool := if (i : Int) < kPorts c.k then mayT (c.S i) (c.P i) else (c.S i == -1 && c.P i == 0)
def classT (c : Sec) (i : Nat) : Bool := decide (0 ≤ c.C i) && decide (c.C i ≤ 3) && (decide (c.C i ≤ 0) || decide ((i : Int) < kMany c.k))
def rightT (c : Sec) : Bool := (kPorts c.k != 0) && (portT c 0 && portT c 1 && portT c 2 && portT c 3) && (classT c 0 && classT c 1)
theorem portT_iff (c : Sec) (i : Nat) : portT c i = true ↔ portFine c.k c.S c.P i := by
  unfold portT portFine
  split
  · rw [mayT_eq]
  · simp
theorem classT_iff (c : Sec) (i : Nat) : classT c i = true ↔ classFine c.k c.C i := by
  unfold classT classFine
  simp
  omega
theorem rightT_eq (c : Sec) : rightB c.k c.S c.P c.C = rightT c := by
  have h : rightT c = true ↔ rightP c.k c.S c.P c.C := by
    unfold rightT rightP
    simp only [Bool.and_eq_true, bne_iff_ne, ne_eq, portT_iff, classT_iff]
    constructor
    · rintro ⟨⟨h, ⟨⟨⟨g0, g1⟩, g2⟩, g3⟩⟩, f0, f1⟩
      refine ⟨h, fun i hi => ?_, fun i hi => ?_⟩
      · have : i = 0 ∨ i = 1 ∨ i = 2 ∨ i = 3 := by omega
        rcases this with rfl | rfl | rfl | rfl <;> assumption
      · have : i = 0 ∨ i = 1 := by omega
        rcases this with rfl | rfl <;> assumption
    · rintro ⟨h, g, f⟩
      exact ⟨⟨h, ⟨⟨⟨g 0 (by decide), g 1 (by decide)⟩, g 2 (by decide)⟩, g 3 (by decide)⟩⟩, f 0 (by decide), f 1 (by decide)⟩
  by_cases r : rightP c.k c.S c.P c.C
  · rw [rightB_true r, h.2 r]
  · rw [rightB_false r]
    cases hr : rightT c with
    | false => rfl
    | true => exact absurd (h.1 hr) r

set_option maxHeartbeats 1000000 in
theorem right1_any (c : Sec) (h0 : 0 ≤ c.k) (h1 : c.k ≤ 255) (w : World) (K : Kinds w) :
    Calls Tryd.prog 43 #[.agg c.enc.toArray] w fun e w' => e = .returned (.bool (!rightT c)) ∧ Below w.heap.size w w' := by
  have hr := fun w1 (K1 : Kinds w1) => right_any c.k c.S c.P c.C h0 h1 w1 K1
  rw [rightT_eq, secV_enc] at hr
  generalize rightT c = r at hr ⊢
  unfold Sec.enc at hr ⊢
  have HR := Lib.hid hr
  have KH := Lib.hid K
  clear hr K
  go_enter Tryd.func43, Tryd.ntmps43
  go_wp2_with fail
  (with_reducible refine (HR.out _ (KH.out.below bself)).mono ?_)
  rintro e w1 ⟨rfl, b1⟩
  go_wp2
  go_ret
  exact ⟨rfl, bnew b1⟩

/-- The block g holds the layout's value. -/
def Box (W : World) (g : Nat) (L : Lay) (p : Where) : Prop := g < W.heap.size ∧ ∀ (i : Nat) (v : Value), (L.cells p)[i]? = some v → W.cell? ⟨g, i, none⟩ = some v
theorem Box.below {W W' : World} {g : Nat} {L : Lay} {p : Where} (h : Box W g L p) (hb : Below W.heap.size W W') : Box W' g L p :=
  ⟨Nat.lt_of_lt_of_le h.1 hb.size, fun i v hv => (hb.cell (p := ⟨g, i, none⟩) h.1).trans (h.2 i v hv)⟩

set_option maxRecDepth 100000 in
set_option maxHeartbeats 1000000 in
theorem right2_any (L : Lay) (p : Where) (s i o : Int) (g : Nat) (w : World) (hL : LayAt w p L) (K : Kinds w) (hB : Box w g L p) :
    Calls Tryd.prog 45 #[.agg #[.int .i64 s, .int .i64 i, .int .i64 o], .pointer (some ⟨g, 0, none⟩)] w fun e w' => e = .returned (.bool (!stepB L s i o)) ∧ Below w.heap.size w w' := by
  have hs := fun w1 (L1 : LayAt w1 p L) (K1 : Kinds w1) => step_any L p s i o w1 L1 K1
  generalize stepN L s i o = n at hs
  generalize stepB L s i o = t at hs ⊢
  unfold Lay.val at hs
  have HS := Lib.hid hs
  have KH := Lib.hid K
  have HL := Lib.hid hL
  obtain ⟨a0, a1, a2, a3, p0, p1, p2, p3⟩ := p
  have lg := hB.1
  have c0 := hB.2 0 _ rfl
  have c1 := hB.2 1 _ rfl
  have c2 := hB.2 2 _ rfl
  have c3 := hB.2 3 _ rfl
  have c4 := hB.2 4 _ rfl
  have c5 := hB.2 5 _ rfl
  have c6 := hB.2 6 _ rfl
  have c7 := hB.2 7 _ rfl
  have c8 := hB.2 8 _ rfl
  have c9 := hB.2 9 _ rfl
  have c10 := hB.2 10 _ rfl
  clear hs K hL hB
  go_enter Tryd.func45, Tryd.ntmps45
  go_wp2_with fail
  (with_reducible refine (HS.out _ (HL.out.below bself) (KH.out.below bself)).mono ?_)
  rintro e w1 ⟨rfl, b1⟩
  go_wp2
  go_ret
  exact ⟨rfl, bnew b1⟩
end Go.Proofs.YtpnnbihofoomeaaDoor
