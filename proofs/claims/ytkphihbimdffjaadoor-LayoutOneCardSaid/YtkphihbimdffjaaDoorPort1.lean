/-
  Package port: what its variables hold; contracts of of, Ports, Ways, Ends, May, Turned, from.
-/
import Derived.Test.YtkphihbimdffjaaDoorBase
import Derived.RegionTactic
namespace Go.Proofs.YtkphihbimdffjaaDoor
open Go.RowKit

/-- What port.none and port.kinds hold, cell by cell. -/
def noneL : List Value := [.int .i64 (-1), .int .i64 0]
def kindL : List Value := [.int .i64 0, .int .i64 0, .int .i64 0, .int .i64 0, .int .i64 0, .int .i64 0, .bool false,
  .int .i64 2, .int .i64 0, .int .i64 1, .int .i64 0, .int .i64 0, .int .i64 1, .bool false,
  .int .i64 3, .int .i64 0, .int .i64 1, .int .i64 0, .int .i64 2, .int .i64 2, .bool true,
  .int .i64 4, .int .i64 0, .int .i64 1, .int .i64 2, .int .i64 3, .int .i64 2, .bool false]
structure Kinds (W : World) : Prop where
  pnone : ∀ (o : Nat) (v : Value), noneL[o]? = some v → W.cell? ⟨0, o, none⟩ = some v
  pkind : ∀ (o : Nat) (v : Value), kindL[o]? = some v → W.cell? ⟨1, o, none⟩ = some v
theorem Kinds.lt0 {W : World} (K : Kinds W) : 0 < W.heap.size := World.block_lt_of_cell? _ _ (K.pnone 0 _ rfl)
theorem Kinds.lt1 {W : World} (K : Kinds W) : 1 < W.heap.size := World.block_lt_of_cell? _ _ (K.pkind 0 _ rfl)
theorem Kinds.below {W W' : World} (K : Kinds W) (h : Below W.heap.size W W') : Kinds W' :=
  ⟨fun o v e => (h.cell (p := ⟨0, o, none⟩) K.lt0).trans (K.pnone o v e), fun o v e => (h.cell (p := ⟨1, o, none⟩) K.lt1).trans (K.pkind o v e)⟩

/-- A kind's row. -/
def kPorts (k : Int) : Int := if k = 1 then 2 else if k = 2 then 3 else if k = 3 then 4 else 0
def kMany (k : Int) : Int := if k = 1 then 1 else if k = 2 then 2 else if k = 3 then 2 else 0
def kB0 (k : Int) : Int := if k = 1 then 1 else if k = 2 then 1 else if k = 3 then 1 else 0
def kA1 (k : Int) : Int := if k = 3 then 2 else 0
def kB1 (k : Int) : Int := if k = 2 then 2 else if k = 3 then 3 else 0
def kPoint (k : Int) : Bool := decide (k = 2)
def rowV (k : Int) : Value := .agg #[.int .i64 (kPorts k), .int .i64 0, .int .i64 (kB0 k), .int .i64 (kA1 k), .int .i64 (kB1 k), .int .i64 (kMany k), .bool (kPoint k)]
/-- The four kinds of rows there are. -/
theorem kCases (k : Int) : (k = 1 ∧ kPorts k = 2 ∧ kMany k = 1 ∧ kB0 k = 1 ∧ kA1 k = 0 ∧ kB1 k = 0 ∧ kPoint k = false) ∨ (k = 2 ∧ kPorts k = 3 ∧ kMany k = 2 ∧ kB0 k = 1 ∧ kA1 k = 0 ∧ kB1 k = 2 ∧ kPoint k = true) ∨
    (k = 3 ∧ kPorts k = 4 ∧ kMany k = 2 ∧ kB0 k = 1 ∧ kA1 k = 2 ∧ kB1 k = 3 ∧ kPoint k = false) ∨ (k ≠ 1 ∧ k ≠ 2 ∧ k ≠ 3 ∧ kPorts k = 0 ∧ kMany k = 0 ∧ kB0 k = 0 ∧ kA1 k = 0 ∧ kB1 k = 0 ∧ kPoint k = false) := by
  by_cases h1 : k = 1
  · subst h1; decide
  by_cases h2 : k = 2
  · subst h2; decide
  by_cases h3 : k = 3
  · subst h3; decide
  exact .inr (.inr (.inr ⟨h1, h2, h3, by simp [kPorts, h1, h2, h3], by simp [kMany, h1, h2, h3], by simp [kB0, h1, h2, h3], by simp [kA1, h3], by simp [kB1, h2, h3], by simp [kPoint, h2]⟩))

set_option maxRecDepth 100000 in
set_option maxHeartbeats 1000000 in
theorem of_any (k : Int) (h0 : 0 ≤ k) (h1 : k ≤ 255) (w : World) (K : Kinds w) :
    Calls Tryd.prog 65 #[.int .u8 k] w fun e w' => e = .returned (rowV k) ∧ Below w.heap.size w w' := by
  have hl := K.lt1
  by_cases h : k < 4
  · have : k = 0 ∨ k = 1 ∨ k = 2 ∨ k = 3 := by omega
    rcases this with rfl | rfl | rfl | rfl
    · have c0 := K.pkind 0 _ rfl
      have c1 := K.pkind 1 _ rfl
      have c2 := K.pkind 2 _ rfl
      have c3 := K.pkind 3 _ rfl
      have c4 := K.pkind 4 _ rfl
      have c5 := K.pkind 5 _ rfl
      have c6 := K.pkind 6 _ rfl
      clear K h0 h1 h
      go_enter Tryd.func65, Tryd.ntmps65
      go_wp2
      refine bodyPost_ret (v := rowV 0) (by simp [results, Tryd.results65, go_sem, rowV, kPorts, kMany, kB0, kA1, kB1, kPoint, *]) rfl ⟨rfl, ?_⟩
      repeat refine Below.setCell ?_ (by dsimp only; omega) _
      exact bself
    · have c0 := K.pkind 7 _ rfl
      have c1 := K.pkind 8 _ rfl
      have c2 := K.pkind 9 _ rfl
      have c3 := K.pkind 10 _ rfl
      have c4 := K.pkind 11 _ rfl
      have c5 := K.pkind 12 _ rfl
      have c6 := K.pkind 13 _ rfl
      clear K h0 h1 h
      go_enter Tryd.func65, Tryd.ntmps65
      go_wp2
      refine bodyPost_ret (v := rowV 1) (by simp [results, Tryd.results65, go_sem, rowV, kPorts, kMany, kB0, kA1, kB1, kPoint, *]) rfl ⟨rfl, ?_⟩
      repeat refine Below.setCell ?_ (by dsimp only; omega) _
      exact bself
    · have c0 := K.pkind 14 _ rfl
      have c1 := K.pkind 15 _ rfl
      have c2 := K.pkind 16 _ rfl
      have c3 := K.pkind 17 _ rfl
      have c4 := K.pkind 18 _ rfl
      have c5 := K.pkind 19 _ rfl
      have c6 := K.pkind 20 _ rfl
      clear K h0 h1 h
      go_enter Tryd.func65, Tryd.ntmps65
      go_wp2
      refine bodyPost_ret (v := rowV 2) (by simp [results, Tryd.results65, go_sem, rowV, kPorts, kMany, kB0, kA1, kB1, kPoint, *]) rfl ⟨rfl, ?_⟩
      repeat refine Below.setCell ?_ (by dsimp only; omega) _
      exact bself
    · have c0 := K.pkind 21 _ rfl
      have c1 := K.pkind 22 _ rfl
      have c2 := K.pkind 23 _ rfl
      have c3 := K.pkind 24 _ rfl
      have c4 := K.pkind 25 _ rfl
      have c5 := K.pkind 26 _ rfl
      have c6 := K.pkind 27 _ rfl
      clear K h0 h1 h
      go_enter Tryd.func65, Tryd.ntmps65
      go_wp2
      refine bodyPost_ret (v := rowV 3) (by simp [results, Tryd.results65, go_sem, rowV, kPorts, kMany, kB0, kA1, kB1, kPoint, *]) rfl ⟨rfl, ?_⟩
      repeat refine Below.setCell ?_ (by dsimp only; omega) _
      exact bself
  · have hr : rowV k = .agg #[.int .i64 0, .int .i64 0, .int .i64 0, .int .i64 0, .int .i64 0, .int .i64 0, .bool false] := by
      rcases kCases k with ⟨h, _⟩ | ⟨h, _⟩ | ⟨h, _⟩ | ⟨_, _, _, r1, r2, r3, r4, r5, r6⟩
      · omega
      · omega
      · omega
      · simp only [rowV, r1, r2, r3, r4, r5, r6]
    rw [hr]
    clear K hr
    go_enter Tryd.func65, Tryd.ntmps65
    go_wp2
    refine bodyPost_ret (v := .agg #[.int .i64 0, .int .i64 0, .int .i64 0, .int .i64 0, .int .i64 0, .int .i64 0, .bool false]) (by simp [results, Tryd.results65, go_sem, *]) rfl ⟨rfl, ?_⟩
    repeat refine Below.setCell ?_ (by dsimp only; omega) _
    exact bself

section
variable (x0 x1 x2 x3 x4 x5 x6 : Value) (w : World)
theorem row_field0 : (Instr.field 100 (.agg #[x0, x1, x2, x3, x4, x5, x6]) 0).run Tryd.prog w = .ok x0 w := by kernel_rfl
theorem row_field1 : (Instr.field 100 (.agg #[x0, x1, x2, x3, x4, x5, x6]) 1).run Tryd.prog w = .ok (.agg #[x1, x2, x3, x4]) w := by kernel_rfl
theorem row_field2 : (Instr.field 100 (.agg #[x0, x1, x2, x3, x4, x5, x6]) 2).run Tryd.prog w = .ok x5 w := by kernel_rfl
theorem row_field3 : (Instr.field 100 (.agg #[x0, x1, x2, x3, x4, x5, x6]) 3).run Tryd.prog w = .ok x6 w := by kernel_rfl
theorem ways_at0 : (Instr.index 98 (.agg #[x0, x1, x2, x3]) (.int .i64 0)).run Tryd.prog w = .ok (.agg #[x0, x1]) w := by kernel_rfl
theorem ways_at1 : (Instr.index 98 (.agg #[x0, x1, x2, x3]) (.int .i64 1)).run Tryd.prog w = .ok (.agg #[x2, x3]) w := by kernel_rfl
end
attribute [local go_sem] row_field0 row_field1 row_field2 row_field3

set_option maxHeartbeats 1000000 in
theorem ports_any (k : Int) (h0 : 0 ≤ k) (h1 : k ≤ 255) (w : World) (K : Kinds w) :
    Calls Tryd.prog 28 #[.int .u8 k] w fun e w' => e = .returned (.int .i64 (kPorts k)) ∧ Below w.heap.size w w' := by
  go_enter Tryd.func28, Tryd.ntmps28
  go_wp2_with fail
  (with_reducible refine (of_any k h0 h1 _ K).mono ?_)
  rintro e w1 ⟨rfl, hb1⟩
  unfold rowV
  go_wp2

  go_ret
  exact ⟨rfl, hb1⟩

set_option maxHeartbeats 1000000 in
theorem ways_any (k : Int) (h0 : 0 ≤ k) (h1 : k ≤ 255) (w : World) (K : Kinds w) :
    Calls Tryd.prog 38 #[.int .u8 k] w fun e w' => e = .returned (.int .i64 (kMany k)) ∧ Below w.heap.size w w' := by
  go_enter Tryd.func38, Tryd.ntmps38
  go_wp2_with fail
  (with_reducible refine (of_any k h0 h1 _ K).mono ?_)
  rintro e w1 ⟨rfl, hb1⟩
  unfold rowV
  go_wp2
  go_ret
  exact ⟨rfl, hb1⟩

/-- May a port be? -/
def mayB (s p : Int) : Bool := decide ((s = -1 ∧ p = 0) ∨ (0 ≤ s ∧ s < 24 ∧ 0 ≤ p ∧ p ≤ 3))
set_option maxRecDepth 100000 in
set_option maxHeartbeats 1000000 in
theorem may_any (s p : Int) (w : World) (K : Kinds w) :
    Calls Tryd.prog 67 #[.agg #[.int .i64 s, .int .i64 p]] w fun e w' => e = .returned (.bool (mayB s p)) ∧ Below w.heap.size w w' := by
  have hl := K.lt0
  have c0 := K.pnone 0 _ rfl
  have c1 := K.pnone 1 _ rfl
  clear K
  go_enter Tryd.func67, Tryd.ntmps67
  go_wp2
  all_goals
    (go_ret
     refine ⟨ret_bool ?_, bself⟩
     unfold mayB
     first | exact (decide_eq_true (by omega)).symm | exact (decide_eq_false (by omega)).symm | (rw [decide_eq_decide]; omega))

theorem from_any (k i : Int) (w : World) :
    Calls Tryd.prog 66 #[.int .u8 k, .int .i64 i] w fun e w' => e = .returned (.func (.func 73) #[] #[.pointer (some ⟨w.heap.size, 0, none⟩), .pointer (some ⟨w.heap.size + 1, 0, none⟩)]) ∧ w' = (w.alloc (.cells #[.int .u8 k] 5)).alloc (.cells #[.int .i64 i] 3) := by
  go_enter Tryd.func66, Tryd.ntmps66
  go_wp2
  go_ret
  exact ⟨rfl, rfl⟩

theorem kMany_le (k : Int) : kMany k ≤ 2 := by
  rcases kCases k with ⟨_, _, h, _⟩ | ⟨_, _, h, _⟩ | ⟨_, _, h, _⟩ | ⟨_, _, _, _, h, _⟩ <;> omega
end Go.Proofs.YtkphihbimdffjaaDoor
