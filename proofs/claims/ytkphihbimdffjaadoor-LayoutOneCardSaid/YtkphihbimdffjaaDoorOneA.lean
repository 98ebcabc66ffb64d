/-
  append onto a row of one's own, whatever is appended (the nil slice, an empty one, too); an own copy of a slice, in a drawn region.
-/
import Derived.Test.YtkphihbimdffjaaDoorOne1
import Derived.Test.YtkphihbimdffjaaDoorRel
import Derived.ArgAppend
import Derived.Lib.AppendZerosOnto
import Derived.Lib.AppendZeros
namespace Go.Proofs.YtkphihbimdffjaaDoor
open Go.RowKit Go.Shelf

theorem run_append_none {P : Program} (w : World) (t ty e : TypeId) (i : TypeInfo) (ht : P.underlying t = some (.slice e)) (hi : P.info? e = some i) (base : Option Addr) (n cap c : Nat) (hn : n ≤ cap) :
    (Builtin.append_ #[t, t] ty #[.slice base n cap, .slice none 0 c]).run P w = .ok (.slice base n cap) w := by
  cases base <;> simp [Builtin.append_, run_underlying ht, sizeOf, typeInfo, hi, Builtin.lenOf, hn, Builtin.firstCells, loadCells, storeCells]
/-- append onto a row of one's own, whatever is appended: the nil slice too. -/
theorem wpList_append_at {P : Program} {w : World} {α : Type} {enc : α → List Value} {ops : Array Oper} {rest : List Oper} {o : Oper} {a : Act} {Q : Exit → Act → World → Prop} (hgd : o.guard = none) (s x : Operand) (t : TypeId)
    (ho : o.op = .call { callee := .builtin .append, args := #[s, x], argTypes := #[t, t] })
    (base : Nat) (e : TypeId) (i : TypeInfo) (z : Value) (size bytes : Nat) (ht : P.underlying t = some (.slice e)) (hi : P.info? e = some i) (hz : i.zero = some z)
    (hsize : i.size = size) (hby : i.bytes = bytes) (hzs : z.cells.size = size) (hsz : 0 < size)
    (v : Value) (n : Nat) (xs : List Value) (hs : a.eval s = v) (hown : w.ownsRow base e size v n xs)
    (A : Option Addr) (m c : Nat) (ys : List α) (hm : m = ys.length) (hx : a.eval x = .slice A m c) (hA : At w size enc A ys) (hk : ∀ x, (enc x).length = size) (h1 : ∀ u ∈ ys.flatMap enc, u.oneCell' = true)
    (h63 : n + m ≤ maxLen) (hbytes : (n + m) * bytes ≤ 140737488355328) (hbase : base ≤ w.heap.size)
    (h : ∀ v' w', w'.ownsRow base e size v' (n + m) (xs ++ ys.flatMap enc) → w.grownBy w' v.ownBlock → wpList P ops Q rest (a.put o.dst v') w') : wpList P ops Q (o :: rest) a w := by
  subst hm
  cases A with
  | none =>
    obtain rfl : ys = [] := by
      rcases hA with h | ⟨b, off, h, _⟩
      · exact h
      · cases h
    have hr : (Builtin.append_ #[t, t] o.type #[v, .slice none 0 c]).run P w = .ok v w := by
      rcases hown.2 with ⟨rfl, _⟩ | ⟨g, cap, cur, rfl, _, _, hn, _⟩
      · exact run_append_none w t _ e i ht hi none 0 0 c (Nat.le_refl _)
      · exact run_append_none w t _ e i ht hi _ n cap c hn
    exact Lib.wpList_append_run w hgd s x t t ho v _ hs hx v w hr (h v w (by simpa using hown) ⟨rfl, rfl, rfl, Nat.le_refl _, fun _ _ _ => rfl⟩)
  | some ad =>
    refine wpList_append_own w hgd s x t ho base e i z size bytes ht hi hz hsize hby hzs hsz v n xs hs hown ad ys.length c (ys.flatMap enc) hx (flat_len hk ys) (fun j u hu => ?_) h1 h63 hbytes hbase (fun v' w' h2 h3 _ => h v' w' h2 h3)
    rcases hA with h | ⟨b, off, h, hrow⟩
    · rw [h] at hu
      simp at hu
    · cases h
      exact flat_cells hk hsz hrow j u hu

theorem stp_one {xs : List Stp} : ∀ u ∈ xs.flatMap Stp.enc, u.oneCell' = true := by
  intro u hu
  obtain ⟨x, hx, hu⟩ := List.mem_flatMap.1 hu
  simp only [Stp.enc, List.mem_cons, List.not_mem_nil, or_false] at hu
  rcases hu with rfl | rfl | rfl <;> rfl
theorem prt_one {xs : List Prt} : ∀ u ∈ xs.flatMap Prt.enc, u.oneCell' = true := by
  intro u hu
  obtain ⟨x, hx, hu⟩ := List.mem_flatMap.1 hu
  simp only [Prt.enc, List.mem_cons, List.not_mem_nil, or_false] at hu
  rcases hu with rfl | rfl <;> rfl
theorem flk_one {xs : List Flk} : ∀ u ∈ xs.flatMap Flk.enc, u.oneCell' = true := by
  intro u hu
  obtain ⟨x, hx, hu⟩ := List.mem_flatMap.1 hu
  simp only [Flk.enc, List.mem_cons, List.not_mem_nil, or_false] at hu
  rcases hu with rfl | rfl | rfl | rfl <;> rfl
theorem sec_one {xs : List Sec} : ∀ u ∈ xs.flatMap Sec.enc, u.oneCell' = true := by
  intro u hu
  obtain ⟨x, hx, hu⟩ := List.mem_flatMap.1 hu
  simp only [Sec.enc, List.mem_cons, List.not_mem_nil, or_false] at hu
  rcases hu with rfl | rfl | rfl | rfl | rfl | rfl | rfl | rfl | rfl | rfl | rfl <;> rfl

theorem ownsV {B e size n : Nat} {W : World} {sv : Value} {xs : List Value} (h : W.ownsRow B e size sv n xs) : ∃ A c, sv = .slice A n c := by
  rcases h.2 with ⟨rfl, rfl⟩ | ⟨g', cap, cur, rfl, _⟩
  · exact ⟨_, _, rfl⟩
  · exact ⟨_, _, rfl⟩

theorem relUpon_value {P : Program} {U W : World} {T : Rel} {c : Value} {r : Result Next} (h : r = .ok (.value c) W) (hC : ClB U W) (hT : T c W) : relUpon P (ClB U) StB W T r := by
  rw [h]
  exact ⟨hC, Below.refl _ _, hT⟩
theorem relUpon_mono {P : Program} {U W : World} {T T' : Rel} {r : Result Next} (h : relUpon P (ClB U) StB W T r) (k : ∀ v w', StB W w' → T v w' → T' v w') : relUpon P (ClB U) StB W T' r := by
  unfold relUpon at *
  split at h
  · exact ⟨h.1, h.2.1, k _ _ h.2.1 h.2.2⟩
  · exact ⟨h.1, h.2.1, k _ _ h.2.1 h.2.2⟩
  · exact h.mono fun e w'' ⟨v, h1, h2, h3, h4⟩ => ⟨v, h1, h2, h3, k _ _ h3 h4⟩
  · exact h.elim

/-! A copy in a drawn region: append([]T{}, x...). -/
/-- A new slice of nothing. -/
def EmptyS (U : World) (e : TypeId) (v : Value) (w : World) : Prop := ∃ g, v = .slice (some ⟨g, 0, none⟩) 0 0 ∧ U.heap.size ≤ g ∧ w.heap[g]? = some (.cells #[] e (0, 0))
theorem EmptyS.step {U W W' : World} {e : TypeId} {v : Value} (h : EmptyS U e v W) (k : StB W W') : EmptyS U e v W' := by
  obtain ⟨g, e1, hb, hg⟩ := h
  exact ⟨g, e1, hb, (k.block g (Array.getElem?_eq_some_iff.1 hg).1).trans hg⟩
theorem rel_emptyS {P : Program} {U W : World} {e : TypeId} {r : Result Next} (h : r = .ok (.value (.slice (some ⟨W.heap.size, 0, none⟩) 0 0)) (W.alloc (.cells #[] e))) (hC : ClB U W) : relUpon P (ClB U) StB W (EmptyS U e) r := by
  rw [h]
  exact ⟨hC.step bself, bself, _, rfl, hC.size, World.alloc_heap_new _ _⟩
theorem run_append_zero {P : Program} (w : World) (t ty e : TypeId) (i : TypeInfo) (ht : P.underlying t = some (.slice e)) (hi : P.info? e = some i) (base A : Option Addr) (c : Nat) :
    (Builtin.append_ #[t, t] ty #[.slice base 0 0, .slice A 0 c]).run P w = .ok (.slice base 0 0) w := by
  cases base <;> cases A <;> simp [Builtin.append_, run_underlying ht, sizeOf, typeInfo, hi, Builtin.lenOf, Builtin.firstCells, loadCells, loadCellsFrom, storeCells]
theorem rel_copy {P : Program} {U W : World} {α : Type} {enc : α → List Value} {ρ : Operand → Value} {dst : Option Tmp} {ty : TypeId} {pos : String} {after : Array Edge} {guard : Option (Nat × Bool)} {s x : Nat} {t e : TypeId} {i : TypeInfo} {z : Value} {size bytes : Nat}
    (h1 : P.underlying t = some (.slice e)) (h2 : P.info? e = some i) (h3 : i.zero = some z) (h4 : i.size = size) (h5 : i.bytes = bytes) (h6 : z.cells.size = size) (h7 : 0 < size)
    (hs : EmptyS U e (ρ (.tmp s)) W) {A : Option Addr} {m c : Nat} {ys : List α} (hm : m = ys.length) (hx : ρ (.tmp x) = .slice A m c) (hA : At W size enc A ys) (hk : ∀ x, (enc x).length = size)
    (b1 : m ≤ maxLen) (b2 : m * bytes ≤ 140737488355328) (hC : ClB U W) :
    relUpon P (ClB U) StB W (fun v w' => w'.ownsRow U.heap.size e size v m (ys.flatMap enc)) ((execOp ρ ⟨dst, .call { callee := .builtin .append, args := #[.tmp s, .tmp x], argTypes := #[t, t] }, ty, pos, after, guard⟩).run P W) := by
  subst hm
  obtain ⟨g, hs, hg, hgg⟩ := hs
  by_cases h0 : ys.length = 0
  · obtain rfl : ys = [] := List.eq_nil_of_length_eq_zero h0
    have hrun := run_append_zero (P := P) W t ty e i h1 h2 (some ⟨g, 0, none⟩) A c
    have hr : (execOp ρ ⟨dst, .call { callee := .builtin .append, args := #[.tmp s, .tmp x], argTypes := #[t, t] }, ty, pos, after, guard⟩).run P W = .ok (.value (.slice (some ⟨g, 0, none⟩) 0 0)) W := by
      simp only [List.length_nil] at hx
      simp [execOp, resolve, invoke, builtin, hs, hx, hrun, Result.andThen]
    rw [hr]
    exact ⟨hC, Below.refl _ _, by simp, .inr ⟨g, 0, #[], rfl, hg, hgg, Nat.le_refl _, by unfold maxLen; omega, by simp, by simp⟩⟩
  · rcases hA with h | ⟨b, off, rfl, hrow⟩
    · rw [h] at h0
      exact absurd rfl h0
    · obtain ⟨v', w', hrun, r1, r2⟩ := run_append_arg_grows (P := P) (w := W) t ty e i z size bytes h1 h2 h3 h4 h5 h6 h7 ⟨g, 0, none⟩ 0 0 [] (by simp) (fun j u h => by simp at h) ⟨b, off, none⟩ ys.length c (ys.flatMap enc) (flat_len hk ys) (fun j u hu => flat_cells hk h7 hrow j u hu) (by omega) (by omega) (by simpa using b2)
      have hb : Below W.heap.size W w' := (Below.refl _ _).grown r2 (Nat.le_refl _) (fun k e => by cases e)
      have hr : (execOp ρ ⟨dst, .call { callee := .builtin .append, args := #[.tmp s, .tmp x], argTypes := #[t, t] }, ty, pos, after, guard⟩).run P W = .ok (.value v') w' := by
        simp [execOp, resolve, invoke, builtin, hs, hx, hrun, Result.andThen]
      rw [hr]
      refine ⟨hC.step hb, hb, ?_⟩
      have := owns_base r1 hC.size
      rwa [Nat.zero_add, List.nil_append] at this
/-- A new slice of one element. -/
def OneS (U : World) (cs : Array Value) (v : Value) (w : World) : Prop := ∃ g, v = .slice (some ⟨g, 0, none⟩) 1 1 ∧ U.heap.size ≤ g ∧ g < w.heap.size ∧ ∀ i, w.cell? ⟨g, i, none⟩ = cs[i]?
theorem OneS.step {U W W' : World} {cs : Array Value} {v : Value} (h : OneS U cs v W) (k : StB W W') : OneS U cs v W' := by
  obtain ⟨g, e, hb, hl, hc⟩ := h
  exact ⟨g, e, hb, Nat.lt_of_lt_of_le hl k.size, fun i => (k.cell (p := ⟨g, i, none⟩) hl).trans (hc i)⟩
theorem rel_one {P : Program} {U W : World} {r : Result Next} {cs : Array Value} {T : TypeId} (h : r = .ok (.value (.slice (some ⟨W.heap.size, 0, none⟩) 1 1)) (W.alloc (.cells cs T))) (hC : ClB U W) : relUpon P (ClB U) StB W (OneS U cs) r := by
  rw [h]
  exact ⟨hC.step bself, bself, _, rfl, hC.size, by simp, fun i => by rw [World.cell?_alloc_at _ _ _ _ rfl]⟩
end Go.Proofs.YtkphihbimdffjaaDoor
