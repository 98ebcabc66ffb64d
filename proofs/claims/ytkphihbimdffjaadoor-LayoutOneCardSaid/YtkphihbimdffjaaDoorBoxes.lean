/-
  Layouts, sections in variables.
-/
import Derived.Test.YtkphihbimdffjaaDoorLay1
import Derived.Deep.RegionHeld
namespace Go.Proofs.YtkphihbimdffjaaDoor
open Go.RowKit Go.Shelf

/-- A layout in a variable. -/
def BoxL (W : World) (n : Nat) (L : Lay) (p : Where) : Prop := n < W.heap.size ∧ ∀ (i : Nat) (v : Value), (L.cells p)[i]? = some v → W.cell? ⟨n, i, none⟩ = some v
theorem BoxL.below {W W' : World} {n : Nat} {L : Lay} {p : Where} (h : BoxL W n L p) (hb : Below W.heap.size W W') : BoxL W' n L p :=
  ⟨Nat.lt_of_lt_of_le h.1 hb.size, fun i v e => (hb.cell (p := ⟨n, i, none⟩) h.1).trans (h.2 i v e)⟩
theorem BoxL.make {W : World} {L : Lay} {p : Where} {n : Nat} (t : TypeId) (hn : n = W.heap.size) : BoxL (W.alloc (.cells (L.cells p).toArray t)) n L p :=
  ⟨by rw [hn]; simp, fun i v e => by rw [World.cell?_alloc_at _ _ _ _ hn]; simpa using e⟩

theorem BoxL.set {W : World} {n g o : Nat} {u : Value} {L : Lay} {p : Where} (h : BoxL W n L p) (hg : n ≠ g) : BoxL (W.setCell ⟨g, o, none⟩ u) n L p :=
  ⟨by simpa [World.setCell] using h.1, fun i v e => by rw [World.cell?_setCell_far _ _ _ _ (by simpa using hg.symm)]; exact h.2 i v e⟩
/-- A layout's variable, loaded whole. -/
theorem runLoad {dst : Option Tmp} {ty : TypeId} {pos : String} {after : Array Edge} {guard : Option (Nat × Bool)} {L : Lay} {p : Where} {n t : Nat} {ρ : Operand → Value} {W : World}
    (h : ρ (.tmp t) = .pointer (some ⟨n, 0, none⟩)) (hB : BoxL W n L p) : (execOp ρ ⟨dst, .load 29 (.tmp t), ty, pos, after, guard⟩).run Tryd.prog W = .ok (.value (L.val p)) W := by
  have c0 := hB.2 0 _ rfl
  have c1 := hB.2 1 _ rfl
  have c2 := hB.2 2 _ rfl
  have c3 := hB.2 3 _ rfl
  have c4 := hB.2 4 _ rfl
  have c5 := hB.2 5 _ rfl
  have c6 := hB.2 6 _ rfl
  have c7 := hB.2 7 _ rfl
  have c8 := hB.2 8 _ rfl
  have c9 := hB.2 9 _ rfl
  have c10 := hB.2 10 _ rfl
  simp [go_sem, h, c0, c1, c2, c3, c4, c5, c6, c7, c8, c9, c10, Lay.val]
/-- A section in a variable. -/
def BoxS (W : World) (g : Nat) (c : Sec) : Prop := g < W.heap.size ∧ ∀ (i : Nat) (v : Value), c.enc[i]? = some v → W.cell? ⟨g, i, none⟩ = some v
theorem BoxS.below {W W' : World} {g : Nat} {c : Sec} (h : BoxS W g c) (hb : Below W.heap.size W W') : BoxS W' g c :=
  ⟨Nat.lt_of_lt_of_le h.1 hb.size, fun i v e => (hb.cell (p := ⟨g, i, none⟩) h.1).trans (h.2 i v e)⟩
theorem BoxS.make (W : World) (c : Sec) : BoxS (W.alloc (.cells c.enc.toArray 39)) W.heap.size c :=
  ⟨by simp, fun i v e => by rw [World.cell?_alloc_at _ _ _ _ rfl]; simpa using e⟩
theorem BoxS.cells {W : World} {g : Nat} {c : Sec} (h : BoxS W g c) : W.cell? ⟨g, 0, none⟩ = some (.int .u8 c.k) ∧ W.cell? ⟨g, 1, none⟩ = some (.int .i64 c.s0) ∧ W.cell? ⟨g, 2, none⟩ = some (.int .i64 c.p0) ∧ W.cell? ⟨g, 3, none⟩ = some (.int .i64 c.s1) ∧ W.cell? ⟨g, 4, none⟩ = some (.int .i64 c.p1) ∧ W.cell? ⟨g, 5, none⟩ = some (.int .i64 c.s2) ∧ W.cell? ⟨g, 6, none⟩ = some (.int .i64 c.p2) ∧ W.cell? ⟨g, 7, none⟩ = some (.int .i64 c.s3) ∧ W.cell? ⟨g, 8, none⟩ = some (.int .i64 c.p3) ∧ W.cell? ⟨g, 9, none⟩ = some (.int .i64 c.c0) ∧ W.cell? ⟨g, 10, none⟩ = some (.int .i64 c.c1) :=
  ⟨h.2 0 _ rfl, h.2 1 _ rfl, h.2 2 _ rfl, h.2 3 _ rfl, h.2 4 _ rfl, h.2 5 _ rfl, h.2 6 _ rfl, h.2 7 _ rfl, h.2 8 _ rfl, h.2 9 _ rfl, h.2 10 _ rfl⟩
theorem BoxS.ports {W : World} {g : Nat} {c : Sec} (h : BoxS W g c) (m : Nat) (hm : m < 4) : W.cell? ⟨g, 1 + m * 2, none⟩ = some (.int .i64 (c.S m)) ∧ W.cell? ⟨g, 1 + m * 2 + 1, none⟩ = some (.int .i64 (c.P m)) := by
  obtain rfl | rfl | rfl | rfl : m = 0 ∨ m = 1 ∨ m = 2 ∨ m = 3 := by omega
  · exact ⟨h.2 1 _ rfl, h.2 2 _ rfl⟩
  · exact ⟨h.2 3 _ rfl, h.2 4 _ rfl⟩
  · exact ⟨h.2 5 _ rfl, h.2 6 _ rfl⟩
  · exact ⟨h.2 7 _ rfl, h.2 8 _ rfl⟩
theorem BoxS.classes {W : World} {g : Nat} {c : Sec} (h : BoxS W g c) (m : Nat) (hm : m < 2) : W.cell? ⟨g, 9 + m, none⟩ = some (.int .i64 (c.C m)) := by
  obtain rfl | rfl : m = 0 ∨ m = 1 := by omega
  · exact h.2 9 _ rfl
  · exact h.2 10 _ rfl
theorem BoxL.cells {W : World} {g : Nat} {L : Lay} {p : Where} (h : BoxL W g L p) : W.cell? ⟨g, 0, none⟩ = some (.slice p.a0 L.secs.length p.c0) ∧ W.cell? ⟨g, 1, none⟩ = some (.slice p.a1 L.sigs.length p.c1) ∧ W.cell? ⟨g, 2, none⟩ = some (.slice p.a2 L.exits.length p.c2) ∧ W.cell? ⟨g, 3, none⟩ = some (.slice p.a3 L.flanks.length p.c3) ∧ W.cell? ⟨g, 4, none⟩ = some (.int .i64 L.t0) ∧ W.cell? ⟨g, 5, none⟩ = some (.int .i64 L.t1) ∧ W.cell? ⟨g, 6, none⟩ = some (.int .i64 L.t2) ∧ W.cell? ⟨g, 7, none⟩ = some (.int .i64 L.t3) ∧ W.cell? ⟨g, 8, none⟩ = some (.int .i64 L.t4) ∧ W.cell? ⟨g, 9, none⟩ = some (.int .i64 L.t5) ∧ W.cell? ⟨g, 10, none⟩ = some (.int .i64 L.t6) :=
  ⟨h.2 0 _ rfl, h.2 1 _ rfl, h.2 2 _ rfl, h.2 3 _ rfl, h.2 4 _ rfl, h.2 5 _ rfl, h.2 6 _ rfl, h.2 7 _ rfl, h.2 8 _ rfl, h.2 9 _ rfl, h.2 10 _ rfl⟩
end Go.Proofs.YtkphihbimdffjaaDoor
