/-
  Equality of the structs of a layout, as one test each.
-/
import Derived.Test.YtkphihbimdffjaaDoorEql
namespace Go.Proofs.YtkphihbimdffjaaDoor
open Go.RowKit Go.Shelf

attribute [local go_sem] eql_join9 eql_class9
set_option maxRecDepth 100000 in
theorem eqQ_port (x y : Prt) (w : World) : (Op.equalIn 10000 31 (.agg #[.int .i64 x.s, .int .i64 x.p]) (.agg #[.int .i64 y.s, .int .i64 y.p])).run Tryd.prog w = .ok (decide (x = y)) w := by
  obtain ⟨x0, x1⟩ := x
  obtain ⟨y0, y1⟩ := y
  rw [run_equalIn_struct w 9999 31 _ _ (by kernel_rfl) stoodE_port]
  by_cases h0 : x0 = y0 <;> by_cases h1 : x1 = y1 <;> simp [Op.eqFields, go_sem, Tryd.underlying31, h0, h1]
theorem stoodE_signal : Tryd.prog.stoodInHeld 50 = false := by kernel_rfl
theorem stoodE_step : Tryd.prog.stoodInHeld 33 = false := by kernel_rfl
theorem stoodE_flank : Tryd.prog.stoodInHeld 55 = false := by kernel_rfl
theorem stoodE_sec : Tryd.prog.stoodInHeld 39 = false := by kernel_rfl
set_option maxRecDepth 100000 in
theorem eqQ_signal (x y : Prt) (w : World) : (Op.equalIn 10000 50 (.agg #[.int .i64 x.s, .int .i64 x.p]) (.agg #[.int .i64 y.s, .int .i64 y.p])).run Tryd.prog w = .ok (decide (x = y)) w := by
  obtain ⟨x0, x1⟩ := x
  obtain ⟨y0, y1⟩ := y
  rw [run_equalIn_struct w 9999 50 _ _ (by kernel_rfl) stoodE_signal]
  by_cases h0 : x0 = y0 <;> by_cases h1 : x1 = y1 <;> simp [Op.eqFields, go_sem, Tryd.underlying50, Tryd.underlying31, h0, h1]
set_option maxRecDepth 100000 in
theorem eqQ_step (x y : Stp) (w : World) : (Op.equalIn 10000 33 (.agg #[.int .i64 x.s, .int .i64 x.i, .int .i64 x.o]) (.agg #[.int .i64 y.s, .int .i64 y.i, .int .i64 y.o])).run Tryd.prog w = .ok (decide (x = y)) w := by
  obtain ⟨x0, x1, x2⟩ := x
  obtain ⟨y0, y1, y2⟩ := y
  rw [run_equalIn_struct w 9999 33 _ _ (by kernel_rfl) stoodE_step]
  by_cases h0 : x0 = y0 <;> by_cases h1 : x1 = y1 <;> by_cases h2 : x2 = y2 <;> simp [Op.eqFields, go_sem, Tryd.underlying33, h0, h1, h2]
set_option maxRecDepth 100000 in
theorem eqQ_flank (x y : Flk) (w : World) : (Op.equalIn 10000 55 (.agg #[.int .i64 x.s, .int .i64 x.way, .int .i64 x.pt, .int .i64 x.pos]) (.agg #[.int .i64 y.s, .int .i64 y.way, .int .i64 y.pt, .int .i64 y.pos])).run Tryd.prog w = .ok (decide (x = y)) w := by
  obtain ⟨x0, x1, x2, x3⟩ := x
  obtain ⟨y0, y1, y2, y3⟩ := y
  rw [run_equalIn_struct w 9999 55 _ _ (by kernel_rfl) stoodE_flank]
  by_cases h0 : x0 = y0 <;> by_cases h1 : x1 = y1 <;> by_cases h2 : x2 = y2 <;> by_cases h3 : x3 = y3 <;> simp [Op.eqFields, go_sem, Tryd.underlying55, h0, h1, h2, h3]
set_option maxRecDepth 100000 in
theorem eqQ_sec (x y : Sec) (w : World) : (Op.equalIn 10000 39 (.agg #[.int .u8 x.k, .int .i64 x.s0, .int .i64 x.p0, .int .i64 x.s1, .int .i64 x.p1, .int .i64 x.s2, .int .i64 x.p2, .int .i64 x.s3, .int .i64 x.p3, .int .i64 x.c0, .int .i64 x.c1]) (.agg #[.int .u8 y.k, .int .i64 y.s0, .int .i64 y.p0, .int .i64 y.s1, .int .i64 y.p1, .int .i64 y.s2, .int .i64 y.p2, .int .i64 y.s3, .int .i64 y.p3, .int .i64 y.c0, .int .i64 y.c1])).run Tryd.prog w = .ok (decide (x = y)) w := by
  obtain ⟨xk, a0, a1, a2, a3, a4, a5, a6, a7, a8, a9⟩ := x
  obtain ⟨yk, b0, b1, b2, b3, b4, b5, b6, b7, b8, b9⟩ := y
  rw [run_equalIn_struct w 9999 39 _ _ (by kernel_rfl) stoodE_sec]
  by_cases h0 : xk = yk
  · by_cases h1 : (a0 = b0 ∧ a1 = b1) ∧ (a2 = b2 ∧ a3 = b3) ∧ (a4 = b4 ∧ a5 = b5) ∧ (a6 = b6 ∧ a7 = b7)
    · obtain ⟨⟨rfl, rfl⟩, ⟨rfl, rfl⟩, ⟨rfl, rfl⟩, ⟨rfl, rfl⟩⟩ := h1
      by_cases h2 : a8 = b8 <;> by_cases h3 : a9 = b9 <;> simp [Op.eqFields, go_sem, Tryd.underlying39, h0, h2, h3]
    · have e : (a0 == b0 && a1 == b1 && (a2 == b2 && a3 == b3) && (a4 == b4 && a5 == b5) && (a6 == b6 && a7 == b7)) = false := by
        rw [Bool.eq_false_iff]
        simp only [ne_eq, Bool.and_eq_true, beq_iff_eq]
        omega
      have d : ¬ ((⟨xk, a0, a1, a2, a3, a4, a5, a6, a7, a8, a9⟩ : Sec) = ⟨yk, b0, b1, b2, b3, b4, b5, b6, b7, b8, b9⟩) := by
        simp only [Sec.mk.injEq]
        omega
      rw [decide_eq_false d]
      simp [Op.eqFields, go_sem, Tryd.underlying39, h0, -Bool.and_eq_true, e]
      try (simp only [Bool.and_eq_true, beq_iff_eq] at *; omega)
  · simp [Op.eqFields, go_sem, Tryd.underlying39, h0]
end Go.Proofs.YtkphihbimdffjaaDoor
