/-
  Equality of sections: their arrays, within a struct.
-/
import Derived.Test.YtkphihbimdffjaaDoorLay1
import Derived.ChangeKeysEq
import Derived.Laws.StructEq
namespace Go.Proofs.YtkphihbimdffjaaDoor
open Go.RowKit Go.Shelf

theorem stoodE_port : Tryd.prog.stoodInHeld 31 = false := by kernel_rfl
theorem infoE_port : ∃ i, Tryd.prog.info? 31 = some i := Option.isSome_iff_exists.1 (show (Tryd.prog.info? 31).isSome = true by kernel_rfl)
theorem cellsE_port : Tryd.prog.cellsOf 31 = 2 := by kernel_rfl
set_option maxRecDepth 100000 in
theorem eqlE_port (d : Nat) (x0 x1 y0 y1 : Int) (w : World) : (Op.equalIn (d + 2) 31 (.agg #[.int .i64 x0, .int .i64 x1]) (.agg #[.int .i64 y0, .int .i64 y1])).run Tryd.prog w = .ok (x0 == y0 && x1 == y1) w := by
  rw [run_equalIn_struct w (d + 1) 31 _ _ (by kernel_rfl) stoodE_port]
  by_cases h0 : x0 = y0 <;> by_cases h1 : x1 = y1 <;> simp [Op.eqFields, go_sem, Tryd.underlying31, h0, h1]
theorem cellsE_int : Tryd.prog.cellsOf 3 = 1 := by kernel_rfl
theorem infoE_int : ∃ i, Tryd.prog.info? 3 = some i := Option.isSome_iff_exists.1 (show (Tryd.prog.info? 3).isSome = true by kernel_rfl)
set_option maxRecDepth 100000 in
theorem eql_join9 (x0 x1 x2 x3 x4 x5 x6 x7 y0 y1 y2 y3 y4 y5 y6 y7 : Int) (w : World) : (Op.equalIn 9999 36 (.agg #[.int .i64 x0, .int .i64 x1, .int .i64 x2, .int .i64 x3, .int .i64 x4, .int .i64 x5, .int .i64 x6, .int .i64 x7]) (.agg #[.int .i64 y0, .int .i64 y1, .int .i64 y2, .int .i64 y3, .int .i64 y4, .int .i64 y5, .int .i64 y6, .int .i64 y7])).run Tryd.prog w =
    .ok (x0 == y0 && x1 == y1 && (x2 == y2 && x3 == y3) && (x4 == y4 && x5 == y5) && (x6 == y6 && x7 == y7)) w := by
  obtain ⟨i, hi⟩ := infoE_port
  have h := run_equalIn_array (P := Tryd.prog) (w := w) (9997 + 1) (t := 36) (e := 31) (n := 4) (i := i) #[.int .i64 x0, .int .i64 x1, .int .i64 x2, .int .i64 x3, .int .i64 x4, .int .i64 x5, .int .i64 x6, .int .i64 x7] #[.int .i64 y0, .int .i64 y1, .int .i64 y2, .int .i64 y3, .int .i64 y4, .int .i64 y5, .int .i64 y6, .int .i64 y7] Tryd.underlying36 hi
  refine h.trans ?_
  rw [cellsE_port]
  have e := fun a b c d w => eqlE_port 9996 a b c d w
  simp only [Nat.reduceAdd] at e ⊢
  simp [Op.eqItems, List.range, List.range.loop, go_sem, e]
  repeat' split
  all_goals simp_all
set_option maxRecDepth 100000 in
theorem eql_class9 (x0 x1 y0 y1 : Int) (w : World) : (Op.equalIn 9999 37 (.agg #[.int .i64 x0, .int .i64 x1]) (.agg #[.int .i64 y0, .int .i64 y1])).run Tryd.prog w = .ok (x0 == y0 && x1 == y1) w := by
  obtain ⟨i, hi⟩ := infoE_int
  have h := run_equalIn_array (P := Tryd.prog) (w := w) (9997 + 1) (t := 37) (e := 3) (n := 2) (i := i) #[.int .i64 x0, .int .i64 x1] #[.int .i64 y0, .int .i64 y1] Tryd.underlying37 hi
  refine h.trans ?_
  rw [cellsE_int]
  have e := fun a b w => run_equalIn_int (P := Tryd.prog) w 9997 3 .i64 .i64 a b Tryd.underlying3
  simp only [Nat.reduceAdd] at e ⊢
  simp [Op.eqItems, List.range, List.range.loop, go_sem, e]
  repeat' split
  all_goals simp_all
end Go.Proofs.YtkphihbimdffjaaDoor
