/-
  A drawn region that appends to a row of its own, in place or to a new one: what later operations may write there is one value at one place, which breaks no relation.
-/
import Derived.Test.YtpcojaoeahdgcaaDoorM7
import Derived.ArgAppend

namespace Go.Proofs.YtpcojaoeahdgcaaDoor
open Go.RowKit Go.Shelf

/-- As it was, but that at place n of rows of one's own the value u may have been written. -/
structure StR (U : World) (e : TypeId) (n : Nat) (u : Value) (W W' : World) : Prop where
  size : W.heap.size ≤ W'.heap.size
  block : ∀ k, k < W.heap.size → W'.heap[k]? = W.heap[k]? ∨ (U.heap.size ≤ k ∧ ∃ cur, W.heap[k]? = some (.cells cur e (0, 0)) ∧ W'.heap[k]? = some (.cells (cur.setIfInBounds n u) e (0, 0)))
theorem StR.of_below {U : World} {e : TypeId} {n : Nat} {u : Value} {W W' : World} (h : StB W W') : StR U e n u W W' := ⟨h.size, fun k hk => .inl (h.block k hk)⟩
theorem StR.refl {U : World} {e : TypeId} {n : Nat} {u : Value} (W : World) : StR U e n u W W := .of_below (Below.refl _ _)
theorem relUpon.row {P : Program} {U W : World} {e : TypeId} {n : Nat} {u : Value} {T : Rel} {r : Result Next} (h : relUpon P (ClB U) StB W T r) : relUpon P (ClB U) (StR U e n u) W T r := by
  unfold relUpon at *
  split at h
  · exact ⟨h.1, .of_below h.2.1, h.2.2⟩
  · exact ⟨h.1, .of_below h.2.1, h.2.2⟩
  · exact h.mono fun e w'' ⟨v, h1, h2, h3, h4⟩ => ⟨v, h1, h2, .of_below h3, h4⟩
  · exact h.elim
theorem relR_value {P : Program} {U W : World} {e : TypeId} {n : Nat} {u : Value} {c : Value} {r : Result Next} (h : r = .ok (.value c) W) (hC : ClB U W) : relUpon P (ClB U) (StR U e n u) W (fun v _ => v = c) r := (rel_value h hC).row
theorem relR_call {P : Program} {U W : World} {e : TypeId} {n : Nat} {u : Value} {c : Value} {r : Result Next} {f : FuncId} {args : Array Value} (h : r = .ok (.enter f args) W) (hC : ClB U W) (hc : Calls P f args W fun e w' => e = .returned c ∧ Below W.heap.size W w') : relUpon P (ClB U) (StR U e n u) W (fun v _ => v = c) r := (rel_call h hC hc).row
/-- The law. -/
theorem wp_region_rel_row {P : Program} {id : Nat} {Q : Exit → Act → World → Prop} {a : Act} {w : World} {l : List Oper} (e : TypeId) (n : Nat) (u : Value) (lss : List Looks) (es : List (Nat × Nat)) (hm : P.follows .mixedOrders = true)
    (hB : (relB l.toArray a.tmps.size lss && es.all fun e => decide (e.1 < l.length) && writesB l.toArray (l.length - 1 - e.1) e.2) = true)
    (h : obFrom P (ClB w) (StR w e n u) a (fun K => ∀ (vs : Nat → Value) (w' : World), ClB w w' → endSeen K vs w' es (Q .normal ⟨writeAll l vs a.tmps, a.defers⟩ w')) l lss []) : (Code.region id l.toArray true).wp P Q a w :=
  wp_region_rel (ClB w) (StR w e n u) lss es hm hB (fun w' => StR.refl w') ((Below.refl _ _).drew) h

/-- A row of one's own, of elements of one cell. -/
def RowI (U : World) (e : TypeId) (n : Nat) (cs : List Value) (v : Value) (w : World) : Prop :=
  ∃ g cap cur, v = .slice (some ⟨g, 0, none⟩) n cap ∧ U.heap.size ≤ g ∧ w.heap[g]? = some (.cells cur e (0, 0)) ∧ n ≤ cap ∧ cap ≤ maxLen ∧ cur.size = cap ∧ cur.toList.take n = cs
theorem RowI.st {U : World} {e : TypeId} {m n : Nat} {u v : Value} {cs : List Value} {W W' : World} (h : RowI U e m cs v W) (hs : StR U e n u W W') (hu : n < m → cs[n]? = some u) : RowI U e m cs v W' := by
  obtain ⟨g, cap, cur, e1, hb, hg, h1, h2, h3, h4⟩ := h
  rcases hs.block g (Array.getElem?_eq_some_iff.1 hg).1 with hk | ⟨_, cur', hc, hc'⟩
  · exact ⟨g, cap, cur, e1, hb, hk.trans hg, h1, h2, h3, h4⟩
  · rw [hg] at hc
    cases hc
    refine ⟨g, cap, _, e1, hb, hc', h1, h2, by simpa using h3, ?_⟩
    rw [Array.toList_setIfInBounds, List.take_set, h4]
    by_cases hn : n < m
    · have := hu hn
      obtain ⟨hl, he⟩ := List.getElem?_eq_some_iff.1 this
      rw [← he]
      exact List.set_getElem_self hl
    · refine List.set_eq_of_length_le ?_
      rw [← h4, List.length_take]
      omega
/-- A new slice of nothing. -/
def EmptyI (U : World) (e : TypeId) (v : Value) (w : World) : Prop := ∃ g, v = .slice (some ⟨g, 0, none⟩) 0 0 ∧ U.heap.size ≤ g ∧ w.heap[g]? = some (.cells #[] e (0, 0))
theorem EmptyI.st {U : World} {e : TypeId} {n : Nat} {u v : Value} {W W' : World} (h : EmptyI U e v W) (hs : StR U e n u W W') : EmptyI U e v W' := by
  obtain ⟨g, e1, hb, hg⟩ := h
  rcases hs.block g (Array.getElem?_eq_some_iff.1 hg).1 with hk | ⟨_, cur', hc, hc'⟩
  · exact ⟨g, e1, hb, hk.trans hg⟩
  · rw [hg] at hc
    cases hc
    exact ⟨g, e1, hb, hc'⟩
theorem EmptyI.step {U : World} {e : TypeId} {v : Value} {W W' : World} (h : EmptyI U e v W) (hs : StB W W') : EmptyI U e v W' := h.st (n := 0) (u := .bool true) (StR.of_below hs)
theorem rel_empty {P : Program} {U W : World} {e : TypeId} {r : Result Next} (h : r = .ok (.value (.slice (some ⟨W.heap.size, 0, none⟩) 0 0)) (W.alloc (.cells #[] e))) (hC : ClB U W) : relUpon P (ClB U) StB W (EmptyI U e) r := by
  rw [h]
  exact ⟨hC.step bself, bself, _, rfl, hC.size, World.alloc_heap_new _ _⟩
theorem rel_oneI {P : Program} {U W : World} {e : TypeId} {u : Value} {r : Result Next} (h : r = .ok (.value (.slice (some ⟨W.heap.size, 0, none⟩) 1 1)) (W.alloc (.cells #[u] e))) (hC : ClB U W) : relUpon P (ClB U) StB W (RowI U e 1 [u]) r := by
  rw [h]
  exact ⟨hC.step bself, bself, _, 1, _, rfl, hC.size, World.alloc_heap_new _ _, Nat.le_refl _, by unfold maxLen; omega, rfl, rfl⟩
theorem run_append_zero {P : Program} (w : World) (t ty e : TypeId) (i : TypeInfo) (ht : P.underlying t = some (.slice e)) (hi : P.info? e = some i) (base A : Option Addr) (c : Nat) :
    (Builtin.append_ #[t, t] ty #[.slice base 0 0, .slice A 0 c]).run P w = .ok (.slice base 0 0) w := by
  cases base <;> cases A <;> simp [Builtin.append_, run_underlying ht, sizeOf, typeInfo, hi, Builtin.lenOf, Builtin.firstCells, loadCells, loadCellsFrom, storeCells]
section
variable {P : Program} {U W : World} {ρ : Operand → Value} {dst : Option Tmp} {ty : TypeId} {pos : String} {after : Array Edge} {guard : Option (Nat × Bool)} {s x : Nat} {t e : TypeId} {i : TypeInfo} {z : Value} {bytes : Nat}
theorem run_append_op {v vx v' : Value} {w' : World} (hs : ρ (.tmp s) = v) (hx : ρ (.tmp x) = vx) (h : (Builtin.append_ #[t, t] ty #[v, vx]).run P W = .ok v' w') :
    (execOp ρ ⟨dst, .call { callee := .builtin .append, args := #[.tmp s, .tmp x], argTypes := #[t, t] }, ty, pos, after, guard⟩).run P W = .ok (.value v') w' := by
  simp [execOp, resolve, invoke, builtin, hs, hx, h, Result.andThen]
/-- What is appended to a new slice of nothing. -/
theorem rel_append_empty (h1 : P.underlying t = some (.slice e)) (h2 : P.info? e = some i) (h3 : i.zero = some z) (h4 : i.size = 1) (h5 : i.bytes = bytes) (h6 : z.cells.size = 1)
    {g : Nat} (hs : ρ (.tmp s) = .slice (some ⟨g, 0, none⟩) 0 0) (hb : U.heap.size ≤ g) (hg : W.heap[g]? = some (.cells #[] e (0, 0))) {A : Option Addr} {m c : Nat} {zs : List Int} (hx : ρ (.tmp x) = .slice A m c) (hm : m = zs.length) (hA : At W 1 intEnc A zs)
    (b1 : m ≤ maxLen) (b2 : m * bytes ≤ 140737488355328) (hC : ClB U W) :
    relUpon P (ClB U) StB W (RowI U e m (zs.flatMap intEnc)) ((execOp ρ ⟨dst, .call { callee := .builtin .append, args := #[.tmp s, .tmp x], argTypes := #[t, t] }, ty, pos, after, guard⟩).run P W) := by
  by_cases h0 : m = 0
  · subst h0
    have hz : zs = [] := List.eq_nil_of_length_eq_zero hm.symm
    rw [run_append_op hs hx (run_append_zero W t ty e i h1 h2 _ A c)]
    refine ⟨hC, Below.refl _ _, g, 0, #[], rfl, hb, hg, Nat.le_refl _, by unfold maxLen; omega, rfl, ?_⟩
    rw [hz]
    rfl
  · obtain ⟨b, off, rfl, hrow⟩ := hA.get (j := 0) (by omega)
    have hk : ∀ x, (intEnc x).length = 1 := fun _ => rfl
    have hlen : (zs.flatMap intEnc).length = m * 1 := by rw [flat_len hk, hm]
    obtain ⟨v', w', hrun, r1, r2⟩ := run_append_arg_grows (P := P) (w := W) t ty e i z 1 bytes h1 h2 h3 h4 h5 h6 (by decide) ⟨g, 0, none⟩ 0 0 [] (by simp) (fun j u h => by simp at h) ⟨b, off, none⟩ m c (zs.flatMap intEnc) hlen (fun j u hu => flat_cells hk (by decide) hrow j u hu) (by omega) (by omega) (by simpa using b2)
    have hbw : Below W.heap.size W w' := (Below.refl _ _).grown r2 (Nat.le_refl _) (fun k e => by cases e)
    rw [run_append_op hs hx hrun]
    refine ⟨hC.step hbw, hbw, ?_⟩
    rw [Nat.zero_add, List.nil_append] at r1
    rcases r1.2 with ⟨_, h⟩ | ⟨g', cap, cur, e1, hb', hg', q1, q2, q3, q4⟩
    · exact absurd h h0
    · exact ⟨g', cap, cur, e1, Nat.le_trans hC.size hb', hg', q1, q2, by simpa using q3, by simpa using q4⟩
/-- One value more, in place or in a new row. -/
theorem rel_append_row (h1 : P.underlying t = some (.slice e)) (h2 : P.info? e = some i) (h3 : i.zero = some z) (h4 : i.size = 1) (h5 : i.bytes = bytes) (h6 : z.cells.size = 1)
    {n : Nat} {cs : List Value} {u : Value} (hu : u.oneCell' = true) (hcs : cs.length = n) (hs : RowI U e n cs (ρ (.tmp s)) W) (hx : RowI U e 1 [u] (ρ (.tmp x)) W)
    (b1 : n + 1 ≤ maxLen) (b2 : (n + 1) * bytes ≤ 140737488355328) (hC : ClB U W) :
    relUpon P (ClB U) (StR U e n u) W (RowI U e (n + 1) (cs ++ [u])) ((execOp ρ ⟨dst, .call { callee := .builtin .append, args := #[.tmp s, .tmp x], argTypes := #[t, t] }, ty, pos, after, guard⟩).run P W) := by
  obtain ⟨g, cap, cur, e1, hb, hg, q1, q2, q3, q4⟩ := hs
  obtain ⟨g', cap', cur', e1', hb', hg', q1', q2', q3', q4'⟩ := hx
  have hl' : g' < W.heap.size := (Array.getElem?_eq_some_iff.1 hg').1
  have hcell' : ∀ j v, [u][j]? = some v → W.cell? ((⟨g', 0, none⟩ : Addr).add j) = some v := fun j v hv => by
    rw [add_at]
    have this : cur'[j]? = some v := by
      have h : (cur'.toList.take 1)[j]? = [u][j]? := by rw [q4']
      rw [hv, List.getElem?_take] at h
      split at h
      · simpa using h
      · cases h
    simp [World.cell?, hg', this]
  by_cases hroom : n + 1 ≤ cap
  · have hfit : n * i.size + [u].length ≤ cur.size := by rw [h4, q3]; simpa using hroom
    have hr := run_append_room (P := P) W (ty := ty) t e i h1 h2 g n cap cur hg ⟨g', 0, none⟩ 1 cap' [u] (by rw [h4]; rfl) hcell' (by simpa using hu) hroom hfit
    rw [run_append_op e1 e1' hr]
    have hcur : (cur.toList.take (n * i.size) ++ [u] ++ cur.toList.drop (n * i.size + [u].length)).toArray = cur.setIfInBounds n u := by
      rw [h4, Nat.mul_one]
      apply Array.toList_inj.1
      rw [Array.toList_setIfInBounds, List.set_eq_take_append_cons_drop, if_pos (by simp; omega)]
      simp
    rw [hcur]
    have hbl : ∀ k, k ≠ g → (W.setRow g (cur.setIfInBounds n u)).heap[k]? = W.heap[k]? := fun k hk => setRow_other W g k _ hk
    refine ⟨⟨hC.os, hC.tape, hC.output, by simpa using hC.size, fun k hk => (hbl k (by omega)).trans (hC.block k hk)⟩, ⟨by simp, fun k hk => ?_⟩, g, cap, _, rfl, hb, setRow_heap W g cur _ e _ hg, hroom, q2, by simpa using q3, ?_⟩
    · by_cases hkg : k = g
      · subst hkg
        exact .inr ⟨hb, cur, hg, setRow_heap W k cur _ e _ hg⟩
      · exact .inl (hbl k hkg)
    · rw [Array.toList_setIfInBounds, List.take_set]
      have hn : n < cur.toList.length := by simp; omega
      rw [List.take_add_one, q4, List.getElem?_eq_getElem hn]
      simp only [Option.toList_some]
      rw [List.set_append_right _ _ (by omega), hcs, Nat.sub_self]
      rfl
  · have holds : ∀ j v, cs[j]? = some v → W.cell? ((⟨g, 0, none⟩ : Addr).add j) = some v := fun j v hv => by
      rw [add_at]
      have this : cur[j]? = some v := by
        rw [← q4, List.getElem?_take] at hv
        split at hv
        · simpa using hv
        · cases hv
      simp [World.cell?, hg, this]
    obtain ⟨v', w', hrun, r1, r2⟩ := run_append_arg_grows (P := P) (w := W) t ty e i z 1 bytes h1 h2 h3 h4 h5 h6 (by decide) ⟨g, 0, none⟩ n cap cs (by simpa using hcs) holds ⟨g', 0, none⟩ 1 cap' [u] rfl hcell' (by omega) b1 b2
    have hbw : Below W.heap.size W w' := (Below.refl _ _).grown r2 (Nat.le_refl _) (fun k e => by cases e)
    rw [run_append_op e1 e1' hrun]
    refine ⟨hC.step hbw, .of_below hbw, ?_⟩
    rcases r1.2 with ⟨_, h⟩ | ⟨g2, cap2, cur2, f1, hb2, hg2, s1, s2, s3, s4⟩
    · omega
    · exact ⟨g2, cap2, cur2, f1, Nat.le_trans hC.size hb2, hg2, s1, s2, by simpa using s3, by simpa using s4⟩
end
theorem RowI.at {U W : World} {e : TypeId} {n : Nat} {zs : List Int} {v : Value} (h : RowI U e n (zs.flatMap intEnc) v W) : ∃ A cap, v = .slice A n cap ∧ At W 1 intEnc A zs ∧ n ≤ cap ∧ cap ≤ maxLen := by
  obtain ⟨g, cap, cur, e1, hb, hg, q1, q2, q3, q4⟩ := h
  refine ⟨_, cap, e1, .inr ⟨g, 0, rfl, (Array.getElem?_eq_some_iff.1 hg).1, fun j x hx i v hv => ?_⟩, q1, q2⟩
  cases i with
  | succ i => simp [intEnc] at hv
  | zero =>
    simp [intEnc] at hv
    subst hv
    have hz : (zs.flatMap intEnc)[j]? = some (.int .i64 x) := by
      rw [flat_get (k := 1) (fun _ => rfl) (by decide), Nat.div_one, hx, Nat.mod_one]
      rfl
    rw [← q4, List.getElem?_take] at hz
    have hc : cur[0 + j * 1 + 0]? = some (.int .i64 x) := by
      split at hz
      · rw [show 0 + j * 1 + 0 = j by omega]; simpa using hz
      · cases hz
    simp only [World.cell?, hg]
    simpa using hc
end Go.Proofs.YtpcojaoeahdgcaaDoor

/-
  The walk of RouteLess.
-/
namespace Go.Proofs.YtpcojaoeahdgcaaDoor
open Go.RowKit Go.Shelf
attribute [local go_sem ↓ high] max_two min_two

theorem rTurned_any (s i o : Int) (w : World) :
    Calls Tryd.prog 14 #[.agg #[.int .i64 s, .int .i64 i, .int .i64 o]] w fun e w' => e = .returned (.agg #[.int .i64 s, .int .i64 o, .int .i64 i]) ∧ Below w.heap.size w w' := by
  go_enter Tryd.func14, Tryd.ntmps14
  go_wp2
  refine bodyPost_ret (v := .agg #[.int .i64 s, .int .i64 o, .int .i64 i]) (by simp [results, Tryd.results14, go_sem]) rfl ⟨rfl, ?_⟩
  repeat refine Below.setCell ?_ (by dsimp only; omega) _
  exact bchain bself bself
theorem slice_low {dst : Option Tmp} {ty : TypeId} {ρ : Operand → Value} {t u n cap k : Nat} {A : Option Addr} (h1 : ρ (.tmp t) = .slice A n cap) (h2 : ρ (.tmp u) = .int .i64 (k : Nat)) (hk : k ≤ n) (hn : n ≤ cap) :
    ∃ D2, (∀ (pos : String) (after : Array Edge) (guard : Option (Nat × Bool)) (W : World), (execOp ρ ⟨dst, .slice 30 (.tmp t) (some (.tmp u)) none none, ty, pos, after, guard⟩).run Tryd.prog W = .ok (.value (.slice D2 (n - k) (cap - k))) W) ∧ ∀ (W : World) (xs : List Stp), xs.length = n → At W 3 Stp.enc A xs → At W 3 Stp.enc D2 (xs.drop k) := by
  cases A with
  | none =>
    refine ⟨none, fun pos after guard W => by simp [go_sem, h1, h2, hk], fun W xs _ h => ?_⟩
    rcases h with rfl | ⟨b, off, h, _⟩
    · exact .inl (by simp)
    · cases h
  | some ad =>
    refine ⟨if cap = k then some ad else some (ad.add (k * 3)), fun pos after guard W => by simp [go_sem, h1, h2, hk], fun W xs hx h => ?_⟩
    rcases h with rfl | ⟨b, off, h, hr⟩
    · exact .inl (by simp)
    · cases h
      by_cases hc : cap = k
      · exact .inl (List.drop_eq_nil_of_le (by omega))
      · rw [if_neg hc, add_at]
        refine .inr ⟨b, off + k * 3, rfl, hr.1, fun j x hj i v hv => ?_⟩
        rw [List.getElem?_drop] at hj
        have := hr.2 (k + j) x hj i v hv
        rw [← this]
        congr 2
        omega
theorem info_int : ∃ i z, Tryd.prog.info? 3 = some i ∧ i.zero = some z ∧ i.size = 1 ∧ z.cells.size = 1 ∧ i.bytes ≤ 100 := by
  have h : (Tryd.prog.info? 3).any (fun i => (match i.zero with | some z => decide (z.cells.size = 1) | none => false) && decide (i.size = 1) && decide (i.bytes ≤ 100)) = true := by kernel_rfl
  cases hi : Tryd.prog.info? 3 with
  | none => rw [hi] at h; cases h
  | some i =>
    rw [hi] at h
    simp only [Option.any_some, Bool.and_eq_true, decide_eq_true_iff] at h
    cases hz : i.zero with
    | none => rw [hz] at h; simp at h
    | some z =>
      rw [hz] at h
      simp at h
      exact ⟨i, z, rfl, hz, h.1.2, h.1.1, h.2⟩
theorem int_one {zs : List Int} : ∀ u ∈ zs.flatMap intEnc, u.oneCell' = true := by
  intro u hu
  obtain ⟨x, hx, hu⟩ := List.mem_flatMap.1 hu
  simp only [intEnc, List.mem_cons, List.not_mem_nil, or_false] at hu
  rw [hu]; rfl
theorem sub_snoc {us vs : List Int} {i : Nat} {v : Int} (h : us.Sublist (vs.take i)) (hv : vs[i]? = some v) : (us ++ [v]).Sublist (vs.take (i + 1)) := by
  rw [List.take_add_one, hv]
  exact h.append (List.Sublist.refl _)
theorem sub_skip {us vs : List Int} {i : Nat} (h : us.Sublist (vs.take i)) : us.Sublist (vs.take (i + 1)) := by
  rw [List.take_add_one]
  exact h.trans (List.sublist_append_left _ _)

set_option maxRecDepth 100000 in
set_option maxHeartbeats 16000000 in
theorem routeLess_walk (L : Lay) (P : Where) (sg ex : Int) (A : Option Addr) (cap : Nat) (xs : List Stp) (V : Option Addr) (vcap : Nat) (vs : List Int) (bits at0 : Int) (w : World) (hL : LayAt w P L) (hA : At w 3 Stp.enc A xs) (hl : xs.length ≤ cap) (hm : cap ≤ 9223372036854775807) (hV : At w 1 intEnc V vs) (hv : vs.length ≤ vcap) (hvm : vcap ≤ 9223372036854775807) (KE : Kinds w ∧ JEnd w) :
    Calls Tryd.prog 4 #[L.val P, .agg #[.int .i64 sg, .int .i64 ex, .slice A xs.length cap], .slice V vs.length vcap, .int .i64 bits, .int .i64 at0] w fun e w' => e = .returned (.bool true) ∧ Below w.heap.size w w' := by
  have hgx := fun X (hX : Below w.heap.size w X) => great11_any L P sg ex A xs.length cap X (hL.below hX) (Nat.le_trans hl hm)
  have hix := fun X (hX : Below w.heap.size w X) (hlt : xs.length ≤ 30) => ris_any L P sg ex A V cap vcap xs vs X (hL.below hX) (KE.1.below hX) (KE.2.below hX) (hA.below hX) hl hm (by omega) (hV.below hX) hv hvm
  have hwk := fun X (hX : Below w.heap.size w X) => wakes11_any X (KE.1.below hX) (KE.2.below hX)
  obtain ⟨qx, hqx⟩ : ∃ q, q = decide (routeN L sg ex xs vs = 0) := ⟨_, rfl⟩
  obtain ⟨n, hn⟩ : ∃ n, n = xs.length := ⟨_, rfl⟩
  obtain ⟨vn, hvn⟩ : ∃ vn, vn = vs.length := ⟨_, rfl⟩
  rw [← hqx] at hix
  rw [← hn] at hgx hix
  rw [← hvn] at hix
  have hl0 := hl
  have hv0 := hv
  rw [← hn] at hl
  rw [← hvn] at hv
  rw [← hn, ← hvn]
  obtain ⟨a0, a1, a2, a3, p0, p1, p2, p3⟩ := P
  unfold Lay.val at hgx hix ⊢
  have HGX := Lib.hid hgx
  have HIX := Lib.hid hix
  have HWK := Lib.hid hwk
  have HQ := Lib.hid (⟨hqx, hn, hvn⟩ : _ ∧ _ ∧ _)
  have HA := Lib.hid (⟨hA, hV, hL, KE⟩ : _ ∧ _ ∧ _ ∧ _)
  clear hgx hix hwk hqx hn hvn hA hV hL KE hl0 hv0
  go_enter Tryd.func4, Tryd.ntmps4
  go_wp2_with fail
  obtain ⟨X, hX⟩ : ∃ X, X = (w.alloc (.cells #[.slice a0 L.secs.length p0, .slice a1 L.sigs.length p1, .slice a2 L.exits.length p2, .slice a3 L.flanks.length p3, .int .i64 L.t0, .int .i64 L.t1, .int .i64 L.t2, .int .i64 L.t3, .int .i64 L.t4, .int .i64 L.t5, .int .i64 L.t6] 29)).alloc (.cells #[.int .i64 sg, .int .i64 ex, .slice A n cap] 32) := ⟨_, rfl⟩
  have hB : Below w.heap.size w X := by rw [hX]; exact bchain bself bself
  have hBL : BoxL X w.heap.size L ⟨a0, a1, a2, a3, p0, p1, p2, p3⟩ := by rw [hX]; exact (BoxL.make (L := L) (p := ⟨a0, a1, a2, a3, p0, p1, p2, p3⟩) _ rfl).below bself
  have hz : ∀ o, X.cell? ⟨w.heap.size + 1, o, none⟩ = (#[.int .i64 sg, .int .i64 ex, .slice A n cap] : Array Value)[o]? := fun o => by rw [hX]; simp [go_sem]
  have hsz : X.heap.size = w.heap.size + 2 := by rw [hX]; simp
  have hall : ∀ V, ClB X V → BoxL V w.heap.size L ⟨a0, a1, a2, a3, p0, p1, p2, p3⟩ ∧ (V.cell? ⟨w.heap.size + 1, 0, none⟩ = some (.int .i64 sg) ∧ V.cell? ⟨w.heap.size + 1, 1, none⟩ = some (.int .i64 ex) ∧ V.cell? ⟨w.heap.size + 1, 2, none⟩ = some (.slice A n cap)) ∧ w.heap.size + 1 < V.heap.size := fun V hC => by
    have hs := hC.size
    have g1 : ∀ o, V.cell? ⟨w.heap.size + 1, o, none⟩ = X.cell? ⟨w.heap.size + 1, o, none⟩ := fun o => hC.cell (p := ⟨w.heap.size + 1, o, none⟩) (by rw [hsz]; dsimp only; omega)
    exact ⟨hBL.below hC, ⟨(g1 0).trans (hz 0), (g1 1).trans (hz 1), (g1 2).trans (hz 2)⟩, by omega⟩
  have HX := Lib.hid (⟨hB, hall⟩ : _ ∧ _)
  rw [← hX]
  clear hX hB hBL hz hsz hall
  (with_reducible refine (HGX.out X HX.out.1).mono ?_)
  rintro e w1 ⟨g, rfl, hf1, b1⟩
  have HB1 := Lib.hid (⟨b1, hf1⟩ : _ ∧ _)
  clear b1 hf1
  cases g with
  | true =>
    go_wp2_with fail
    (with_reducible refine (HWK.out _ (bchain HX.out.1 HB1.out.1)).mono ?_)
    rintro e w9 ⟨rfl, b9⟩
    have HB9 := Lib.hid (bchain (bchain HX.out.1 HB1.out.1) b9)
    clear b9
    go_wp2
    go_ret
    exact ⟨rfl, HB9.out⟩
  | false =>
  have hn30 : n ≤ 30 := (HB1.out.2 (by first | exact rfl | trivial)).2
  by_cases h2 : 2 < vn
  case pos =>
    have d2 : decide ((2 : Int) < (vn : Int)) = true := decide_eq_true (by omega)
    have mv : vn ≤ 9223372036854775807 := by omega
    go_wp2_with fail
    (with_reducible refine (HWK.out _ (bchain HX.out.1 HB1.out.1)).mono ?_)
    rintro e w9 ⟨rfl, b9⟩
    have HB9 := Lib.hid (bchain (bchain HX.out.1 HB1.out.1) b9)
    clear b9
    go_wp2
    go_ret
    exact ⟨rfl, HB9.out⟩
  have d2 : decide ((2 : Int) < (vn : Int)) = false := decide_eq_false (by omega)
  obtain ⟨hbx, ⟨s0, s1, s2⟩, l1⟩ := HX.out.2 w1 HB1.out.1
  obtain ⟨c0, c1, c2, c3, c4, c5, c6, c7, c8, c9, c10⟩ := hbx.cells
  have lg := hbx.1
  dsimp only at c0 c1 c2 c3
  clear hbx
  go_wp2_with fail
  (with_reducible refine (HIX.out w1 (bchain HX.out.1 HB1.out.1) hn30).mono ?_)
  rintro e w2 ⟨rfl, b2⟩
  have HB2 := Lib.hid (bchain HB1.out.1 b2)
  clear b2 c0 c1 c2 c3 c4 c5 c6 c7 c8 c9 c10 lg s0 s1 s2 l1
  cases qx with
  | false =>
    go_wp2_with fail
    (with_reducible refine (HWK.out _ (bchain HX.out.1 HB2.out)).mono ?_)
    rintro e w9 ⟨rfl, b9⟩
    have HB9 := Lib.hid (bchain (bchain HX.out.1 HB2.out) b9)
    clear b9
    go_wp2
    go_ret
    exact ⟨rfl, HB9.out⟩
  | true =>
  have hr0 : routeN L sg ex xs vs = 0 := of_decide_eq_true HQ.out.1.symm
  obtain ⟨i0, z0, hi, hz, hs1, hs2, hs3⟩ := info_int
  have HI := Lib.hid (⟨hi, hz, hs1, hs2, hs3⟩ : _ ∧ _ ∧ _ ∧ _ ∧ _)
  have HR := Lib.hid hr0
  clear hi hz hs1 hs2 hs3 hr0
  go_wp2_with fail
  go_loopw [11, 12] (fun s c wv => ∃ (i : Nat) (us : List Int), i ≤ vn ∧ c = .int .i64 i ∧ Hid (Below X.heap.size X wv ∧ us.Sublist (vs.take i) ∧ wv.ownsRow X.heap.size 3 1 s us.length (us.flatMap intEnc))) (fun _ c _ => vn - (intOf c).toNat)
  case atStart => exact ⟨0, [], Nat.zero_le _, rfl, Lib.hid ⟨HB2.out, List.nil_sublist _, World.ownsRow_nil _ _ _ _⟩⟩
  case round =>
    obtain ⟨i, us, hi, rfl, HRR⟩ := hrel
    by_cases hlt : i < vn
    case pos =>
      have hBw := bchain HX.out.1 HRR.out.1
      obtain ⟨b, off, hVe, hrow⟩ := HA.out.2.1.get (j := i) (by rw [← HQ.out.2.2]; exact hlt)
      subst hVe
      obtain ⟨v, hvv⟩ : ∃ v, vs[i]? = some v := ⟨_, List.getElem?_eq_getElem (by rw [← HQ.out.2.2]; exact hlt)⟩
      have v0 : wr.cell? ⟨b, off + i, none⟩ = some (.int .i64 v) := (hBw.cell (p := ⟨b, off + i, none⟩) hrow.1).trans (by simpa using hrow.2 i v hvv 0 _ rfl)
      have lb := Nat.lt_of_lt_of_le hrow.1 hBw.size
      have HV := Lib.hid (⟨hvv, hBw⟩ : _ ∧ _)
      clear hrow hvv hBw
      have hown := HRR.out.2.2.alloc (.cells #[.int .i64 v] 3)
      have HO := Lib.hid hown
      have hAn : At (wr.alloc (.cells #[.int .i64 v] 3)) 1 intEnc (some ⟨wr.heap.size, 0, none⟩) [v] := .inr ⟨wr.heap.size, 0, rfl, ints_at (by simp) (fun i => by simp [go_sem])⟩
      have hul : us.length ≤ 2 := by have := HRR.out.2.1.length_le; rw [List.length_take] at this; omega
      have HAN := Lib.hid (⟨hAn, hul⟩ : _ ∧ _)
      clear hown hAn hul
      go_wp2_with (at_builtin; refine wpList_append_at (enc := intEnc) rfl _ _ 33 rfl X.heap.size 3 i0 z0 1 i0.bytes Tryd.underlying33 HI.out.1 HI.out.2.1 HI.out.2.2.1 rfl HI.out.2.2.2.1 (by decide) _ us.length (us.flatMap intEnc) rfl HO.out (some ⟨wr.heap.size, 0, none⟩) 1 1 [v] rfl rfl HAN.out.1 (fun _ => rfl) int_one ?b1 ?b2 ?b3 ?_)
      case b1 => have := HAN.out.2; unfold maxLen; omega
      case b2 =>
        have h1 : us.length + 1 ≤ 100 := by have := HAN.out.2; omega
        have h2 := Nat.mul_le_mul h1 HI.out.2.2.2.2
        omega
      case b3 => exact Nat.le_trans HRR.out.1.size (by simp)
      · intro v' w' ho' hg'
        have hB' : Below X.heap.size X w' := (bchain HRR.out.1 (bself (w := wr) (o := .cells #[.int .i64 v] 3))).grown hg' (Nat.le_trans HRR.out.1.size (by simp)) (fun k e => (HO.out.lt k e).1)
        have HO2 := Lib.hid (⟨hB', ho'⟩ : _ ∧ _)
        clear ho' hg' hB'
        go_wp2
        refine ⟨⟨i + 1, us ++ [v], by omega, by go_num, Lib.hid ⟨HO2.out.1, sub_snoc HRR.out.2.1 HV.out.1, ?_⟩⟩, by simp [intOf]; omega⟩
        rw [List.length_append, List.flatMap_append]
        exact HO2.out.2
      · exact ⟨⟨i + 1, us, by omega, by go_num, Lib.hid ⟨HRR.out.1, sub_skip HRR.out.2.1, HRR.out.2.2⟩⟩, by simp [intOf]; omega⟩
    obtain rfl : i = vn := by omega
    have hsub : us.Sublist vs := by have := HRR.out.2.1; rwa [HQ.out.2.2, List.take_length] at this
    obtain ⟨UA, ucap, rfl, hul, hum, hUA⟩ := at_of_row (enc := intEnc) (k := 1) (fun _ => rfl) (by decide) HRR.out.2.2
    obtain ⟨un, hun⟩ : ∃ un, un = us.length := ⟨_, rfl⟩
    rw [← hun] at hul ⊢
    have HU := Lib.hid (⟨hsub, hUA, hul, hum, hun, HRR.out.1⟩ : _ ∧ _ ∧ _ ∧ _ ∧ _ ∧ _)
    clear hsub hul hum hUA hun HRR
    obtain ⟨ww, hww⟩ : ∃ ww, ww = wr := ⟨_, rfl⟩
    subst hww
    obtain ⟨hbx, ⟨s0, s1, s2⟩, l1⟩ := HX.out.2 ww HU.out.2.2.2.2.2
    clear hbx
    obtain ⟨k, hk, hkn⟩ := clamp at0 n
    have mn : n ≤ 9223372036854775807 := by omega
    obtain ⟨i1, z1, hi1, hz1, hj1, hj2, hj3⟩ := info_Step
    have HI2 := Lib.hid (⟨hi1, hz1, hj1, hj2, hj3⟩ : _ ∧ _ ∧ _ ∧ _ ∧ _)
    clear hi1 hz1 hj1 hj2 hj3
    go_wp2_with fail
    clear s0 s1 s2 l1
    go_loopw [14, 15] (fun s c wv => ∃ (j : Nat) (BA : Option Addr) (bc : Nat), j ≤ n ∧ j ≤ bc ∧ bc ≤ 9223372036854775807 ∧ s = .slice BA j bc ∧ c = .int .i64 j ∧ Hid (Below X.heap.size X wv ∧ Below ww.heap.size ww wv ∧ At wv 3 Stp.enc BA (backL (xs.take j)))) (fun _ c _ => n - (intOf c).toNat)
    case atStart => exact ⟨0, none, 0, Nat.zero_le _, Nat.le_refl _, by omega, rfl, rfl, Lib.hid ⟨HU.out.2.2.2.2.2, Below.refl _ _, .inl rfl⟩⟩
    case round =>
      obtain ⟨j, BA, bc, hj, hjb, hbc, rfl, rfl, HJ⟩ := hrel
      obtain ⟨hbx, ⟨s0, s1, s2⟩, l1⟩ := HX.out.2 wr HJ.out.1
      by_cases hjn : j < n
      case pos =>
        clear hbx
        have hBw := bchain HX.out.1 HJ.out.1
        obtain ⟨b, off, hAe, hrow⟩ := HA.out.1.get (j := j) (by rw [← HQ.out.2.1]; exact hjn)
        subst hAe
        obtain ⟨x, hx⟩ : ∃ x, xs[j]? = some x := ⟨_, List.getElem?_eq_getElem (by rw [← HQ.out.2.1]; exact hjn)⟩
        have hbk : backL (xs.take (j + 1)) = turnS x :: backL (xs.take j) := by rw [List.take_add_one, hx]; exact back_snoc _ _
        have hbl : (backL (xs.take j)).length = j := by unfold backL; rw [List.length_reverse, List.length_map, List.length_take]; have := HQ.out.2.1; omega
        obtain ⟨xa, xb, xc⟩ := x
        have x0 : wr.cell? ⟨b, off + j * 3, none⟩ = some (.int .i64 xa) := (hBw.cell (p := ⟨b, off + j * 3, none⟩) hrow.1).trans (hrow.2 j _ hx 0 _ rfl)
        have x1 : wr.cell? ⟨b, off + j * 3 + 1, none⟩ = some (.int .i64 xb) := (hBw.cell (p := ⟨b, off + j * 3 + 1, none⟩) hrow.1).trans (hrow.2 j _ hx 1 _ rfl)
        have x2 : wr.cell? ⟨b, off + j * 3 + 2, none⟩ = some (.int .i64 xc) := (hBw.cell (p := ⟨b, off + j * 3 + 2, none⟩) hrow.1).trans (hrow.2 j _ hx 2 _ rfl)
        have lb := Nat.lt_of_lt_of_le hrow.1 hBw.size
        have HXK := Lib.hid (⟨hbk, hbl⟩ : _ ∧ _)
        clear hbk hbl hrow hx hBw
        go_wp2_with fail
        (with_reducible refine (rTurned_any _ _ _ _).mono ?_)
        rintro e w5 ⟨rfl, b5⟩
        have HB5 := Lib.hid b5
        clear b5 x0 x1 x2 lb s0 s1 s2 l1
        have hown : (w5.alloc (.cells #[.int .i64 xa, .int .i64 xc, .int .i64 xb] 43)).ownsRow w5.heap.size 43 3 (.slice (some ⟨w5.heap.size, 0, none⟩) 1 1) 1 ([turnS ⟨xa, xb, xc⟩].flatMap Stp.enc) :=
          ⟨rfl, .inr ⟨w5.heap.size, 1, _, rfl, Nat.le_refl _, World.alloc_heap_new _ _, Nat.le_refl _, by unfold maxLen; omega, rfl, rfl⟩⟩
        have hAb : At (w5.alloc (.cells #[.int .i64 xa, .int .i64 xc, .int .i64 xb] 43)) 3 Stp.enc BA (backL (xs.take j)) := HJ.out.2.2.below (bchain HB5.out bself)
        have HO := Lib.hid (⟨hown, hAb⟩ : _ ∧ _)
        clear hown hAb
        go_wp2_with (at_builtin; refine wpList_append_at (enc := Stp.enc) rfl _ _ 30 rfl w5.heap.size 43 i1 z1 3 i1.bytes Tryd.underlying30 HI2.out.1 HI2.out.2.1 HI2.out.2.2.1 rfl HI2.out.2.2.2.1 (by decide) _ 1 ([turnS ⟨xa, xb, xc⟩].flatMap Stp.enc) rfl HO.out.1 BA j bc (backL (xs.take j)) HXK.out.2.symm rfl HO.out.2 (fun _ => rfl) stp_one ?b1 ?b2 ?b3 ?_)
        case b1 => unfold maxLen; omega
        case b2 =>
          have h1 : 1 + j ≤ 100 := by omega
          have h2 := Nat.mul_le_mul h1 HI2.out.2.2.2.2
          omega
        case b3 => simp
        intro v' w6 ho' hg'
        have hB' : Below w5.heap.size w5 w6 := (bself (w := w5) (o := .cells #[.int .i64 xa, .int .i64 xc, .int .i64 xb] 43)).grown hg' (by simp) (fun k e => by simp [Value.ownBlock] at e; omega)
        have ho2 : w6.ownsRow w5.heap.size 43 3 v' (backL (xs.take (j + 1))).length ((backL (xs.take (j + 1))).flatMap Stp.enc) := by
          rw [HXK.out.1, List.length_cons, HXK.out.2, Nat.add_comm, List.flatMap_cons]
          exact ho'
        obtain ⟨BA2, bc2, rfl, hq1, hq2, hq3⟩ := at_of_row (enc := Stp.enc) (k := 3) (fun _ => rfl) (by decide) ho2
        have hlen2 : (backL (xs.take (j + 1))).length = j + 1 := by rw [HXK.out.1, List.length_cons, HXK.out.2]
        rw [hlen2] at hq1 ⊢
        have hbc2 : bc2 ≤ 9223372036854775807 := hq2
        have HO2 := Lib.hid (⟨bchain (bchain HJ.out.1 HB5.out) hB', bchain (bchain HJ.out.2.1 HB5.out) hB', hq3⟩ : _ ∧ _ ∧ _)
        clear ho' hg' hB' ho2 hq3 hlen2 hq2
        go_wp2
        go_roundw
        case rel => exact ⟨j + 1, BA2, bc2, by omega, by omega, hbc2, rfl, by go_num, HO2⟩
        case measure => simp [intOf]; omega
      obtain rfl : j = n := by omega
      have hAB : At wr 3 Stp.enc BA (backL xs) := by have := HJ.out.2.2; rwa [HQ.out.2.1, List.take_length] at this
      have HAB := Lib.hid hAB
      have HBX := Lib.hid hbx
      have HZ := Lib.hid (bchain HX.out.1 HJ.out.1)
      have HZX := Lib.hid HJ.out.1
      clear hAB hbx
      obtain ⟨ht, hgo, h12⟩ := route_goes HR.out
      have hbl : (backL xs).length = j := by unfold backL; rw [List.length_reverse, List.length_map, HQ.out.2.1]
      have q0 : ∀ V', ClB wr V' → V'.cell? ⟨w.heap.size + 1, 0, none⟩ = some (.int .i64 sg) := fun V' h => (h.cell (p := ⟨w.heap.size + 1, 0, none⟩) l1).trans s0
      have q1 : ∀ V', ClB wr V' → V'.cell? ⟨w.heap.size + 1, 1, none⟩ = some (.int .i64 ex) := fun V' h => (h.cell (p := ⟨w.heap.size + 1, 1, none⟩) l1).trans s1
      have q2 : ∀ V', ClB wr V' → V'.cell? ⟨w.heap.size + 1, 2, none⟩ = some (.slice A j cap) := fun V' h => (h.cell (p := ⟨w.heap.size + 1, 2, none⟩) l1).trans s2
      have hLk := fun V' (h : ClB wr V') => HA.out.2.2.1.below (bchain HZ.out h)
      have hKk := fun V' (h : ClB wr V') => HA.out.2.2.2.1.below (bchain HZ.out h)
      have hEk := fun V' (h : ClB wr V') => HA.out.2.2.2.2.below (bchain HZ.out h)
      have hAk := fun V' (h : ClB wr V') => HA.out.1.below (bchain HZ.out h)
      have k1 : ∀ (V' : World), ClB wr V' → Calls Tryd.prog 8 #[.agg #[.slice a0 L.secs.length p0, .slice a1 L.sigs.length p1, .slice a2 L.exits.length p2, .slice a3 L.flanks.length p3, .int .i64 L.t0, .int .i64 L.t1, .int .i64 L.t2, .int .i64 L.t3, .int .i64 L.t4, .int .i64 L.t5, .int .i64 L.t6], .agg #[.int .i64 sg, .int .i64 ex, .slice A j cap], .slice UA un ucap] V' fun e w' => e = .returned (.bool true) ∧ Below V'.heap.size V' w' := fun V' h => by
        have := ris_any L ⟨a0, a1, a2, a3, p0, p1, p2, p3⟩ sg ex A UA cap ucap xs us V' (hLk V' h) (hKk V' h) (hEk V' h) (hAk V' h) (by rw [← HQ.out.2.1]; exact hl) hm (by rw [← HQ.out.2.1]; omega) (HU.out.2.1.below (bchain HJ.out.2.1 h)) (by rw [← HU.out.2.2.2.2.1]; exact HU.out.2.2.1) HU.out.2.2.2.1
        rw [route_less HR.out HU.out.1, ← HQ.out.2.1, ← HU.out.2.2.2.2.1] at this
        exact this
      have k2 : ∀ (V' : World), ClB wr V' → Calls Tryd.prog 15 #[.agg #[.slice a0 L.secs.length p0, .slice a1 L.sigs.length p1, .slice a2 L.exits.length p2, .slice a3 L.flanks.length p3, .int .i64 L.t0, .int .i64 L.t1, .int .i64 L.t2, .int .i64 L.t3, .int .i64 L.t4, .int .i64 L.t5, .int .i64 L.t6], .slice A k cap] V' fun e w' => e = .returned (.bool true) ∧ Below V'.heap.size V' w' := fun V' h => by
        have := goes_any L ⟨a0, a1, a2, a3, p0, p1, p2, p3⟩ A cap (xs.take k) V' (hLk V' h) (hKk V' h) (hEk V' h) ((hAk V' h).take k) (by rw [List.length_take]; omega) hm
        rw [goes_take k hgo, List.length_take_of_le (by rw [← HQ.out.2.1]; exact hkn)] at this
        exact this
      have k3 : ∀ (V' : World) D2, ClB wr V' → At V' 3 Stp.enc D2 (xs.drop k) → Calls Tryd.prog 15 #[.agg #[.slice a0 L.secs.length p0, .slice a1 L.sigs.length p1, .slice a2 L.exits.length p2, .slice a3 L.flanks.length p3, .int .i64 L.t0, .int .i64 L.t1, .int .i64 L.t2, .int .i64 L.t3, .int .i64 L.t4, .int .i64 L.t5, .int .i64 L.t6], .slice D2 (j - k) (cap - k)] V' fun e w' => e = .returned (.bool true) ∧ Below V'.heap.size V' w' := fun V' D2 h hd => by
        have := goes_any L ⟨a0, a1, a2, a3, p0, p1, p2, p3⟩ D2 (cap - k) (xs.drop k) V' (hLk V' h) (hKk V' h) (hEk V' h) hd (by rw [List.length_drop, ← HQ.out.2.1]; omega) (by omega)
        rw [goes_drop k hgo, List.length_drop, ← HQ.out.2.1] at this
        exact this
      have k4 : ∀ (V' : World), ClB wr V' → Calls Tryd.prog 15 #[.agg #[.slice a0 L.secs.length p0, .slice a1 L.sigs.length p1, .slice a2 L.exits.length p2, .slice a3 L.flanks.length p3, .int .i64 L.t0, .int .i64 L.t1, .int .i64 L.t2, .int .i64 L.t3, .int .i64 L.t4, .int .i64 L.t5, .int .i64 L.t6], .slice BA j bc] V' fun e w' => e = .returned (.bool true) ∧ Below V'.heap.size V' w' := fun V' h => by
        have := goes_any L ⟨a0, a1, a2, a3, p0, p1, p2, p3⟩ BA bc (backL xs) V' (hLk V' h) (hKk V' h) (hEk V' h) (HAB.out.below h) (by rw [hbl]; exact hjb) hbc
        rw [goes_turn ht hgo, hbl] at this
        exact this
      have HC := Lib.hid (⟨k1, k2, k3, k4, fun V' (h : ClB wr V') => HWK.out V' (bchain HZ.out h)⟩ : _ ∧ _ ∧ _ ∧ _ ∧ _)
      have hkc : k ≤ cap := by omega
      clear k1 k2 k3 k4 hLk hKk hEk hAk ht hgo h12 hbl s0 s1 s2
      go_upto_region 16 with fail
      refine wp_region_rel_below [([(5, none)], none), ([(6, none)], none), ([(11, none)], none), ([(72, some 2), (73, some 1), (74, some 0)], none), ([(75, some 0)], none), ([(5, none), (76, some 0)], some (76, true)), ([(6, none), (76, some 1)], some (76, true)), ([(78, some 0), (76, some 2)], some (76, true)), ([(4, none), (76, some 3)], some (76, true)), ([(79, some 1), (80, some 0), (76, some 4)], some (76, true)), ([(77, some 4), (81, some 0), (76, some 5)], some (76, true)), ([(76, some 6), (82, some 0)], none), ([(83, some 0)], none), ([(5, none), (84, some 0)], some (84, true)), ([(6, none), (84, some 1)], some (84, true)), ([(86, some 0), (84, some 2)], some (84, true)), ([(4, none), (84, some 3)], some (84, true)), ([(87, some 1), (88, some 0), (84, some 4)], some (84, true)), ([(85, some 4), (89, some 0), (84, some 5)], some (84, true)), ([(84, some 6), (90, some 0)], none), ([(91, some 0)], none), ([(5, none), (92, some 0)], some (92, true)), ([(14, none), (92, some 1)], some (92, true)), ([(93, some 1), (94, some 0), (92, some 2)], some (92, true)), ([(92, some 3), (95, some 0)], none), ([(96, some 0)], none), ([(97, some 0)], some (97, true)), ([(97, some 1), (98, some 0)], none), ([(99, some 0)], none)] [(0, 10)] (by kernel_rfl) (by kernel_rfl) ?_
      refine ob_det (c := .agg #[.slice a0 L.secs.length p0, .slice a1 L.sigs.length p1, .slice a2 L.exits.length p2, .slice a3 L.flanks.length p3, .int .i64 L.t0, .int .i64 L.t1, .int .i64 L.t2, .int .i64 L.t3, .int .i64 L.t4, .int .i64 L.t5, .int .i64 L.t6]) ?_ ?_
      · intro ρ W hk hC
        simp only [seen, obOp]
        rintro h5
        replace h5 : ρ (.tmp 5) = .pointer (some ⟨w.heap.size, 0, none⟩) := h5.trans rfl
        exact rel_value (runLoad h5 (HBX.out.below hC)) hC
      refine ob_det (c := .agg #[.int .i64 sg, .int .i64 ex, .slice A j cap]) ?_ ?_
      · intro ρ W hk hC
        simp only [seen, obOp]
        rintro h6
        replace h6 : ρ (.tmp 6) = .pointer (some ⟨w.heap.size + 1, 0, none⟩) := h6.trans rfl
        exact rel_value (by simp [go_sem, h6, q0 W hC, q1 W hC, q2 W hC]) hC
      refine ob_det (c := .slice UA un ucap) ?_ ?_
      · intro ρ W hk hC
        simp only [seen, obOp]
        rintro h11
        replace h11 : ρ (.tmp 11) = .slice UA un ucap := h11.trans rfl
        exact rel_value (by simp [go_sem, h11]) hC
      refine ob_det (c := .bool true) ?_ ?_
      · intro ρ W hk hC
        simp only [seen, obOp, List.getD_cons_zero, List.getD_cons_succ]
        rintro h72 h73 h74
        exact rel_call (f := 8) (args := #[.agg #[.slice a0 L.secs.length p0, .slice a1 L.sigs.length p1, .slice a2 L.exits.length p2, .slice a3 L.flanks.length p3, .int .i64 L.t0, .int .i64 L.t1, .int .i64 L.t2, .int .i64 L.t3, .int .i64 L.t4, .int .i64 L.t5, .int .i64 L.t6], .agg #[.int .i64 sg, .int .i64 ex, .slice A j cap], .slice UA un ucap]) (by simp [go_sem, h72, h73, h74, hk.func]) hC (HC.out.1 W hC)
      refine ob_det (c := .bool true) ?_ ?_
      · intro ρ W hk hC
        simp only [seen, obOp, List.getD_cons_zero]
        rintro h75
        exact rel_value (by simp [go_sem, h75]) hC
      refine ob_det (c := .agg #[.slice a0 L.secs.length p0, .slice a1 L.sigs.length p1, .slice a2 L.exits.length p2, .slice a3 L.flanks.length p3, .int .i64 L.t0, .int .i64 L.t1, .int .i64 L.t2, .int .i64 L.t3, .int .i64 L.t4, .int .i64 L.t5, .int .i64 L.t6]) ?_ ?_
      · intro ρ W hk hC
        simp only [seen, obOp, List.getD_cons_zero]
        rintro h5 h76
        replace h5 : ρ (.tmp 5) = .pointer (some ⟨w.heap.size, 0, none⟩) := h5.trans rfl
        refine ⟨fun _ => ?_, fun hn => absurd h76 hn⟩
        exact rel_value (runLoad h5 (HBX.out.below hC)) hC
      refine ob_det (c := .pointer (some ⟨w.heap.size + 1, 2, none⟩)) ?_ ?_
      · intro ρ W hk hC
        simp only [seen, obOp, List.getD_cons_zero, List.getD_cons_succ]
        rintro h6 h76
        replace h6 : ρ (.tmp 6) = .pointer (some ⟨w.heap.size + 1, 0, none⟩) := h6.trans rfl
        refine ⟨fun _ => ?_, fun hn => absurd h76 hn⟩
        exact rel_value (by simp [go_sem, h6]) hC
      refine ob_det (c := .slice A j cap) ?_ ?_
      · intro ρ W hk hC
        simp only [seen, obOp, List.getD_cons_zero, List.getD_cons_succ]
        rintro h78 h76
        refine ⟨fun _ => ?_, fun hn => absurd h76 hn⟩
        exact rel_value (by simp [go_sem, h78, q2 W hC]) hC
      refine ob_det (c := .int .i64 (k : Nat)) ?_ ?_
      · intro ρ W hk hC
        simp only [seen, obOp, List.getD_cons_zero, List.getD_cons_succ]
        rintro h4 h76
        replace h4 : ρ (.tmp 4) = .int .i64 (k : Nat) := h4.trans rfl
        refine ⟨fun _ => ?_, fun hn => absurd h76 hn⟩
        exact rel_value (by simp [go_sem, h4]) hC
      refine ob_det (c := .slice A k cap) ?_ ?_
      · intro ρ W hk hC
        simp only [seen, obOp, List.getD_cons_zero, List.getD_cons_succ]
        rintro h79 h80 h76
        refine ⟨fun _ => ?_, fun hn => absurd h76 hn⟩
        exact rel_value (by simp [go_sem, h79, h80, hkc]) hC
      refine ob_det (c := .bool true) ?_ ?_
      · intro ρ W hk hC
        simp only [seen, obOp, List.getD_cons_zero, List.getD_cons_succ]
        rintro h77 h81 h76
        refine ⟨fun _ => ?_, fun hn => absurd h76 hn⟩
        exact rel_call (f := 15) (args := #[.agg #[.slice a0 L.secs.length p0, .slice a1 L.sigs.length p1, .slice a2 L.exits.length p2, .slice a3 L.flanks.length p3, .int .i64 L.t0, .int .i64 L.t1, .int .i64 L.t2, .int .i64 L.t3, .int .i64 L.t4, .int .i64 L.t5, .int .i64 L.t6], .slice A k cap]) (by simp [go_sem, h77, h81, hk.func]) hC (HC.out.2.1 W hC)
      refine ob_det (c := .bool true) ?_ ?_
      · intro ρ W hk hC
        simp only [seen, obOp, List.getD_cons_zero, List.getD_cons_succ]
        rintro h76 h82
        exact rel_value (by simp [go_sem, h76, h82, hk.const]) hC
      refine ob_det (c := .bool true) ?_ ?_
      · intro ρ W hk hC
        simp only [seen, obOp, List.getD_cons_zero]
        rintro h83
        exact rel_value (by simp [go_sem, h83]) hC
      refine ob_det (c := .agg #[.slice a0 L.secs.length p0, .slice a1 L.sigs.length p1, .slice a2 L.exits.length p2, .slice a3 L.flanks.length p3, .int .i64 L.t0, .int .i64 L.t1, .int .i64 L.t2, .int .i64 L.t3, .int .i64 L.t4, .int .i64 L.t5, .int .i64 L.t6]) ?_ ?_
      · intro ρ W hk hC
        simp only [seen, obOp, List.getD_cons_zero]
        rintro h5 h84
        replace h5 : ρ (.tmp 5) = .pointer (some ⟨w.heap.size, 0, none⟩) := h5.trans rfl
        refine ⟨fun _ => ?_, fun hn => absurd h84 hn⟩
        exact rel_value (runLoad h5 (HBX.out.below hC)) hC
      refine ob_det (c := .pointer (some ⟨w.heap.size + 1, 2, none⟩)) ?_ ?_
      · intro ρ W hk hC
        simp only [seen, obOp, List.getD_cons_zero, List.getD_cons_succ]
        rintro h6 h84
        replace h6 : ρ (.tmp 6) = .pointer (some ⟨w.heap.size + 1, 0, none⟩) := h6.trans rfl
        refine ⟨fun _ => ?_, fun hn => absurd h84 hn⟩
        exact rel_value (by simp [go_sem, h6]) hC
      refine ob_det (c := .slice A j cap) ?_ ?_
      · intro ρ W hk hC
        simp only [seen, obOp, List.getD_cons_zero, List.getD_cons_succ]
        rintro h86 h84
        refine ⟨fun _ => ?_, fun hn => absurd h84 hn⟩
        exact rel_value (by simp [go_sem, h86, q2 W hC]) hC
      refine ob_det (c := .int .i64 (k : Nat)) ?_ ?_
      · intro ρ W hk hC
        simp only [seen, obOp, List.getD_cons_zero, List.getD_cons_succ]
        rintro h4 h84
        replace h4 : ρ (.tmp 4) = .int .i64 (k : Nat) := h4.trans rfl
        refine ⟨fun _ => ?_, fun hn => absurd h84 hn⟩
        exact rel_value (by simp [go_sem, h4]) hC
      refine ⟨fun v w' => ∃ D2, v = .slice D2 (j - k) (cap - k) ∧ At w' 3 Stp.enc D2 (xs.drop k), fun v w' w'' ⟨D2, e, h⟩ hb => ⟨D2, e, h.below hb⟩, ?_, ?_⟩
      · intro ρ W hk hC
        simp only [seen, obOp, List.getD_cons_zero, List.getD_cons_succ]
        rintro h87 h88 h84
        refine ⟨fun _ => ?_, fun hn => absurd h84 hn⟩
        obtain ⟨D2, hr, hd⟩ := slice_low (dst := some 89) (ty := 30) h87 h88 hkn hl
        rw [show (execOp ρ _).run Tryd.prog W = _ from hr _ _ _ W]
        exact ⟨hC, Below.refl _ _, D2, rfl, hd W xs HQ.out.2.1.symm (HA.out.1.below (bchain HZ.out hC))⟩
      refine ob_det (c := .bool true) ?_ ?_
      · intro ρ W hk hC
        simp only [seen, obOp, List.getD_cons_zero, List.getD_cons_succ]
        rintro h85 ⟨D2, h89, hD2⟩ h84
        refine ⟨fun _ => ?_, fun hn => absurd h84 hn⟩
        exact rel_call (f := 15) (args := #[.agg #[.slice a0 L.secs.length p0, .slice a1 L.sigs.length p1, .slice a2 L.exits.length p2, .slice a3 L.flanks.length p3, .int .i64 L.t0, .int .i64 L.t1, .int .i64 L.t2, .int .i64 L.t3, .int .i64 L.t4, .int .i64 L.t5, .int .i64 L.t6], .slice D2 (j - k) (cap - k)]) (by simp [go_sem, h85, h89, hk.func]) hC (HC.out.2.2.1 W D2 hC hD2)
      refine ob_det (c := .bool true) ?_ ?_
      · intro ρ W hk hC
        simp only [seen, obOp, List.getD_cons_zero, List.getD_cons_succ]
        rintro h84 h90
        exact rel_value (by simp [go_sem, h84, h90, hk.const]) hC
      refine ob_det (c := .bool true) ?_ ?_
      · intro ρ W hk hC
        simp only [seen, obOp, List.getD_cons_zero]
        rintro h91
        exact rel_value (by simp [go_sem, h91]) hC
      refine ob_det (c := .agg #[.slice a0 L.secs.length p0, .slice a1 L.sigs.length p1, .slice a2 L.exits.length p2, .slice a3 L.flanks.length p3, .int .i64 L.t0, .int .i64 L.t1, .int .i64 L.t2, .int .i64 L.t3, .int .i64 L.t4, .int .i64 L.t5, .int .i64 L.t6]) ?_ ?_
      · intro ρ W hk hC
        simp only [seen, obOp, List.getD_cons_zero]
        rintro h5 h92
        replace h5 : ρ (.tmp 5) = .pointer (some ⟨w.heap.size, 0, none⟩) := h5.trans rfl
        refine ⟨fun _ => ?_, fun hn => absurd h92 hn⟩
        exact rel_value (runLoad h5 (HBX.out.below hC)) hC
      refine ob_det (c := .slice BA j bc) ?_ ?_
      · intro ρ W hk hC
        simp only [seen, obOp, List.getD_cons_zero, List.getD_cons_succ]
        rintro h14 h92
        replace h14 : ρ (.tmp 14) = .slice BA j bc := h14.trans rfl
        refine ⟨fun _ => ?_, fun hn => absurd h92 hn⟩
        exact rel_value (by simp [go_sem, h14]) hC
      refine ob_det (c := .bool true) ?_ ?_
      · intro ρ W hk hC
        simp only [seen, obOp, List.getD_cons_zero, List.getD_cons_succ]
        rintro h93 h94 h92
        refine ⟨fun _ => ?_, fun hn => absurd h92 hn⟩
        exact rel_call (f := 15) (args := #[.agg #[.slice a0 L.secs.length p0, .slice a1 L.sigs.length p1, .slice a2 L.exits.length p2, .slice a3 L.flanks.length p3, .int .i64 L.t0, .int .i64 L.t1, .int .i64 L.t2, .int .i64 L.t3, .int .i64 L.t4, .int .i64 L.t5, .int .i64 L.t6], .slice BA j bc]) (by simp [go_sem, h93, h94, hk.func]) hC (HC.out.2.2.2.1 W hC)
      refine ob_det (c := .bool true) ?_ ?_
      · intro ρ W hk hC
        simp only [seen, obOp, List.getD_cons_zero, List.getD_cons_succ]
        rintro h92 h95
        exact rel_value (by simp [go_sem, h92, h95, hk.const]) hC
      refine ob_det (c := .bool true) ?_ ?_
      · intro ρ W hk hC
        simp only [seen, obOp, List.getD_cons_zero]
        rintro h96
        exact rel_value (by simp [go_sem, h96]) hC
      refine ob_det (c := .bool true) ?_ ?_
      · intro ρ W hk hC
        simp only [seen, obOp, List.getD_cons_zero]
        rintro h97
        refine ⟨fun _ => ?_, fun hn => absurd h97 hn⟩
        exact rel_call (f := 9) (args := #[]) (by simp [go_sem, hk.func]) hC (HC.out.2.2.2.2 W hC)
      refine ob_det (c := .bool true) ?_ ?_
      · intro ρ W hk hC
        simp only [seen, obOp, List.getD_cons_zero, List.getD_cons_succ]
        rintro h97 h98
        exact rel_value (by simp [go_sem, h97, h98, hk.const]) hC
      refine ob_det (c := .bool true) ?_ ?_
      · intro ρ W hk hC
        simp only [seen, obOp, List.getD_cons_zero]
        rintro h99
        exact rel_value (by simp [go_sem, h99]) hC
      intro vs5 w7 hC7
      simp only [endSeen, List.getD_cons_zero]
      intro h10
      simp only [writeAll, List.setIfInBounds_toArray, List.set_cons_zero, List.set_cons_succ, h10]
      go_wp2
      go_ret
      exact ⟨rfl, bchain HZ.out hC7⟩
end Go.Proofs.YtpcojaoeahdgcaaDoor

/-
  The walk of RouteGoes.
-/
namespace Go.Proofs.YtpcojaoeahdgcaaDoor
open Go.RowKit Go.Shelf

section
variable {P : Program} {U W : World} {ρ : Operand → Value} {dst : Option Tmp} {ty : TypeId} {pos : String} {after : Array Edge} {guard : Option (Nat × Bool)} {s x : Nat} {t e : TypeId} {i : TypeInfo} {z : Value} {bytes : Nat}
/-- What is appended to a new slice of nothing: elements of three cells. -/
theorem rel_append3 (h1 : P.underlying t = some (.slice e)) (h2 : P.info? e = some i) (h3 : i.zero = some z) (h4 : i.size = 3) (h5 : i.bytes = bytes) (h6 : z.cells.size = 3)
    {g : Nat} (hs : ρ (.tmp s) = .slice (some ⟨g, 0, none⟩) 0 0) (hb : U.heap.size ≤ g) (hg : W.heap[g]? = some (.cells #[] e (0, 0))) {A : Option Addr} {m c : Nat} {xs : List Stp} (hx : ρ (.tmp x) = .slice A m c) (hm : m = xs.length) (hA : At W 3 Stp.enc A xs) (_h1 : ∀ u ∈ xs.flatMap Stp.enc, u.oneCell' = true)
    (b1 : m ≤ maxLen) (b2 : m * bytes ≤ 140737488355328) (hC : ClB U W) :
    relUpon P (ClB U) StB W (fun v w' => w'.ownsRow U.heap.size e 3 v m (xs.flatMap Stp.enc)) ((execOp ρ ⟨dst, .call { callee := .builtin .append, args := #[.tmp s, .tmp x], argTypes := #[t, t] }, ty, pos, after, guard⟩).run P W) := by
  by_cases h0 : m = 0
  · subst h0
    have hz : xs = [] := List.eq_nil_of_length_eq_zero hm.symm
    rw [run_append_op hs hx (run_append_zero W t ty e i h1 h2 _ A c)]
    refine ⟨hC, Below.refl _ _, by rw [hz]; rfl, .inr ⟨g, 0, #[], rfl, hb, hg, Nat.le_refl _, by unfold maxLen; omega, rfl, by rw [hz]; rfl⟩⟩
  · obtain ⟨b, off, rfl, hrow⟩ := hA.get (j := 0) (by omega)
    have hk : ∀ x, (Stp.enc x).length = 3 := fun _ => rfl
    exact rel_append h1 h2 h3 h4 h5 h6 (by decide) hs hx (by rw [flat_len hk, hm]) (fun j u hu => flat_cells hk (by decide) hrow j u hu) (by omega) b1 b2 hC
end

theorem one_at {n : Nat} {u : Value} (h : n = 0) : [u][n]? = some u := by subst h; rfl
def lastLk (L : Lay) (xs : List Stp) (s : Stp) : Bool := match xs.getLast? with
  | some z => linkB L z s
  | none => true
theorem goes_more2 (L : Lay) (xs : List Stp) (s : Stp) : goesL L (xs ++ [s]) = (goesL L xs && (stepOk L s && lastLk L xs s)) := goes_more L xs s
set_option maxRecDepth 100000 in
set_option maxHeartbeats 32000000 in
theorem routeGoes_walk (L : Lay) (P : Where) (sg ex : Int) (A : Option Addr) (cap : Nat) (xs : List Stp) (sx sy sz : Int) (V : Option Addr) (vcap : Nat) (vs : List Int) (w : World) (hL : LayAt w P L) (hA : At w 3 Stp.enc A xs) (hl : xs.length ≤ cap) (hm : cap ≤ 9223372036854775807) (hV : At w 1 intEnc V vs) (hv : vs.length ≤ vcap) (hvm : vcap ≤ 9223372036854775807) (KE : Kinds w ∧ JEnd w) :
    Calls Tryd.prog 6 #[L.val P, .agg #[.int .i64 sg, .int .i64 ex, .slice A xs.length cap], .agg #[.int .i64 sx, .int .i64 sy, .int .i64 sz], .slice V vs.length vcap] w fun e w' => e = .returned (.bool true) ∧ Below w.heap.size w w' := by
  have hgx := fun X (hX : Below w.heap.size w X) => great11_any L P sg ex A xs.length cap X (hL.below hX) (Nat.le_trans hl hm)
  have hwk := fun X (hX : Below w.heap.size w X) => wakes11_any X (KE.1.below hX) (KE.2.below hX)
  have hst := fun X (hX : Below w.heap.size w X) => rStep_any L P sx sy sz X (hL.below hX)
  have hgo := fun X (hX : Below w.heap.size w X) => goes_any L P A cap xs X (hL.below hX) (KE.1.below hX) (KE.2.below hX) (hA.below hX) hl hm
  have hth := fun X (hX : Below w.heap.size w X) => through_any sg ex A V cap vcap xs vs X (hA.below hX) (hV.below hX) (Nat.le_trans hl hm) hv hvm
  obtain ⟨n, hn⟩ : ∃ n, n = xs.length := ⟨_, rfl⟩
  obtain ⟨vn, hvn⟩ : ∃ vn, vn = vs.length := ⟨_, rfl⟩
  obtain ⟨qo, hqo⟩ : ∃ q, q = stepOk L ⟨sx, sy, sz⟩ := ⟨_, rfl⟩
  obtain ⟨qg, hqg⟩ : ∃ q, q = goesL L xs := ⟨_, rfl⟩
  obtain ⟨qh, hqh⟩ : ∃ q, q = throughL vs xs := ⟨_, rfl⟩
  have hqo2 : stepB L sx sy sz = qo := hqo.symm
  rw [hqo2] at hst
  generalize stepN L sx sy sz = sn at hst
  rw [← hqg] at hgo
  rw [← hqh] at hth
  rw [← hn] at hgx hgo hth hl
  rw [← hvn] at hth hv
  rw [← hn, ← hvn]
  obtain ⟨a0, a1, a2, a3, p0, p1, p2, p3⟩ := P
  unfold Lay.val at hgx hst hgo ⊢
  have HGX := Lib.hid hgx
  have HWK := Lib.hid hwk
  have HST := Lib.hid hst
  have HGO := Lib.hid hgo
  have HTH := Lib.hid hth
  have HQ := Lib.hid (⟨hn, hvn, hqo, hqg, hqh⟩ : _ ∧ _ ∧ _ ∧ _ ∧ _)
  have HA := Lib.hid (⟨hA, hV, hL, KE⟩ : _ ∧ _ ∧ _ ∧ _)
  clear hgx hwk hst hgo hth hn hvn hqo hqg hqh hqo2 hA hV hL KE
  go_enter Tryd.func6, Tryd.ntmps6
  go_wp2_with fail
  obtain ⟨X, hX⟩ : ∃ X, X = ((w.alloc (.cells #[.slice a0 L.secs.length p0, .slice a1 L.sigs.length p1, .slice a2 L.exits.length p2, .slice a3 L.flanks.length p3, .int .i64 L.t0, .int .i64 L.t1, .int .i64 L.t2, .int .i64 L.t3, .int .i64 L.t4, .int .i64 L.t5, .int .i64 L.t6] 29)).alloc (.cells #[.int .i64 sg, .int .i64 ex, .slice A n cap] 32)).alloc (.cells #[.int .i64 sx, .int .i64 sy, .int .i64 sz] 43) := ⟨_, rfl⟩
  have hB : Below w.heap.size w X := by rw [hX]; exact bchain (bchain bself bself) bself
  have hBL : BoxL X w.heap.size L ⟨a0, a1, a2, a3, p0, p1, p2, p3⟩ := by rw [hX]; exact ((BoxL.make (L := L) (p := ⟨a0, a1, a2, a3, p0, p1, p2, p3⟩) _ rfl).below bself).below bself
  have hz : (∀ o, X.cell? ⟨w.heap.size + 1, o, none⟩ = (#[.int .i64 sg, .int .i64 ex, .slice A n cap] : Array Value)[o]?) ∧ ∀ o, X.cell? ⟨w.heap.size + 1 + 1, o, none⟩ = (#[.int .i64 sx, .int .i64 sy, .int .i64 sz] : Array Value)[o]? := ⟨fun o => by rw [hX]; simp [go_sem], fun o => by rw [hX]; simp [go_sem]⟩
  have hsz : X.heap.size = w.heap.size + 3 := by rw [hX]; simp
  have hall : ∀ V, ClB X V → BoxL V w.heap.size L ⟨a0, a1, a2, a3, p0, p1, p2, p3⟩ ∧ (V.cell? ⟨w.heap.size + 1, 0, none⟩ = some (.int .i64 sg) ∧ V.cell? ⟨w.heap.size + 1, 1, none⟩ = some (.int .i64 ex) ∧ V.cell? ⟨w.heap.size + 1, 2, none⟩ = some (.slice A n cap)) ∧ (V.cell? ⟨w.heap.size + 1 + 1, 0, none⟩ = some (.int .i64 sx) ∧ V.cell? ⟨w.heap.size + 1 + 1, 1, none⟩ = some (.int .i64 sy) ∧ V.cell? ⟨w.heap.size + 1 + 1, 2, none⟩ = some (.int .i64 sz)) ∧ w.heap.size + 1 < V.heap.size ∧ w.heap.size + 1 + 1 < V.heap.size := fun V hC => by
    have hs := hC.size
    have g1 : ∀ o, V.cell? ⟨w.heap.size + 1, o, none⟩ = X.cell? ⟨w.heap.size + 1, o, none⟩ := fun o => hC.cell (p := ⟨w.heap.size + 1, o, none⟩) (by rw [hsz]; dsimp only; omega)
    have g2 : ∀ o, V.cell? ⟨w.heap.size + 1 + 1, o, none⟩ = X.cell? ⟨w.heap.size + 1 + 1, o, none⟩ := fun o => hC.cell (p := ⟨w.heap.size + 1 + 1, o, none⟩) (by rw [hsz]; dsimp only; omega)
    exact ⟨hBL.below hC, ⟨(g1 0).trans (hz.1 0), (g1 1).trans (hz.1 1), (g1 2).trans (hz.1 2)⟩, ⟨(g2 0).trans (hz.2 0), (g2 1).trans (hz.2 1), (g2 2).trans (hz.2 2)⟩, by omega, by omega⟩
  have HX := Lib.hid (⟨hB, hall⟩ : _ ∧ _)
  rw [← hX]
  clear hX hB hBL hz hsz hall
  (with_reducible refine (HGX.out X HX.out.1).mono ?_)
  rintro e w1 ⟨g, rfl, hf1, b1⟩
  have HB1 := Lib.hid (⟨b1, hf1⟩ : _ ∧ _)
  clear b1 hf1
  cases g with
  | true =>
    go_wp2_with fail
    (with_reducible refine (HWK.out _ (bchain HX.out.1 HB1.out.1)).mono ?_)
    rintro e w9 ⟨rfl, b9⟩
    have HB9 := Lib.hid (bchain (bchain HX.out.1 HB1.out.1) b9)
    clear b9
    go_wp2
    go_ret
    exact ⟨rfl, HB9.out⟩
  | false =>
  have hn30 : n ≤ 30 := (HB1.out.2 (by first | exact rfl | trivial)).2
  have mv : vn ≤ 9223372036854775807 := by omega
  by_cases h2 : 10 < vn
  case pos =>
    have d2 : decide ((10 : Int) < (vn : Int)) = true := decide_eq_true (by omega)
    go_wp2_with fail
    (with_reducible refine (HWK.out _ (bchain HX.out.1 HB1.out.1)).mono ?_)
    rintro e w9 ⟨rfl, b9⟩
    have HB9 := Lib.hid (bchain (bchain HX.out.1 HB1.out.1) b9)
    clear b9
    go_wp2
    go_ret
    exact ⟨rfl, HB9.out⟩
  have d2 : decide ((10 : Int) < (vn : Int)) = false := decide_eq_false (by omega)
  have mn : n ≤ 9223372036854775807 := by omega
  obtain ⟨hbx, ⟨s0, s1, s2⟩, ⟨t0, t1, t2⟩, l1, l2⟩ := HX.out.2 w1 HB1.out.1
  clear hbx
  obtain ⟨i1, z1, hi1, hz1, hj1, hj2, hj3⟩ := info_Step
  have HI2 := Lib.hid (⟨hi1, hz1, hj1, hj2, hj3⟩ : _ ∧ _ ∧ _ ∧ _ ∧ _)
  clear hi1 hz1 hj1 hj2 hj3
  go_upto_region 4 with fail
  obtain ⟨U, hU⟩ : ∃ U, U = w1 := ⟨_, rfl⟩
  subst hU
  have HU := Lib.hid (⟨bchain HX.out.1 HB1.out.1, HB1.out.1⟩ : _ ∧ _)
  have q2 : ∀ V', ClB U V' → V'.cell? ⟨w.heap.size + 1, 2, none⟩ = some (.slice A n cap) := fun V' h => (HX.out.2 V' (bchain HU.out.2 h)).2.1.2.2
  have z0 : ∀ V', ClB U V' → V'.cell? ⟨w.heap.size + 1 + 1, 0, none⟩ = some (.int .i64 sx) := fun V' h => (HX.out.2 V' (bchain HU.out.2 h)).2.2.1.1
  have z1' : ∀ V', ClB U V' → V'.cell? ⟨w.heap.size + 1 + 1, 1, none⟩ = some (.int .i64 sy) := fun V' h => (HX.out.2 V' (bchain HU.out.2 h)).2.2.1.2.1
  have z2 : ∀ V', ClB U V' → V'.cell? ⟨w.heap.size + 1 + 1, 2, none⟩ = some (.int .i64 sz) := fun V' h => (HX.out.2 V' (bchain HU.out.2 h)).2.2.1.2.2
  clear s0 s1 s2 t0 t1 t2 l1 l2
  refine (wpIn_wide (n := 5)).1 ?_
  refine wpIn_region_rel_head (.inl rfl) 6 [([], none), ([(5, none)], none), ([(30, some 0)], none), ([(29, some 2), (31, some 0)], none), ([(6, none)], none), ([(33, some 0)], none)] [(0, 34), (2, 32)] (by kernel_rfl) (by kernel_rfl) (by kernel_rfl) (by kernel_rfl) (by kernel_rfl) (by kernel_rfl) (by kernel_rfl) (by kernel_rfl) ?_
  simp only [List.take_succ_cons, List.take_zero, List.drop_succ_cons, List.drop_zero]
  refine ⟨EmptyI U 43, fun _ _ _ h k => h.step k, ?_, ?_⟩
  · intro ρ W hk hC
    simp only [seen, obOp]
    exact rel_empty (by simp [go_sem]) hC
  refine ob_det (c := .pointer (some ⟨w.heap.size + 1, 2, none⟩)) ?_ ?_
  · intro ρ W hk hC
    simp only [seen, obOp]
    rintro h5
    replace h5 : ρ (.tmp 5) = .pointer (some ⟨w.heap.size + 1, 0, none⟩) := h5.trans rfl
    exact rel_value (by simp [go_sem, h5]) hC
  refine ob_det (c := .slice A n cap) ?_ ?_
  · intro ρ W hk hC
    simp only [seen, obOp, List.getD_cons_zero]
    rintro h30
    exact rel_value (by simp [go_sem, h30, q2 W hC]) hC
  refine ⟨fun v w' => w'.ownsRow U.heap.size 43 3 v n (xs.flatMap Stp.enc), fun _ _ _ h k => owns_below h k, ?_, ?_⟩
  · intro ρ W hk hC
    simp only [seen, obOp, List.getD_cons_zero, List.getD_cons_succ]
    rintro ⟨g0, h29, hb0, hg0⟩ h31
    exact rel_append3 Tryd.underlying30 HI2.out.1 HI2.out.2.1 HI2.out.2.2.1 rfl HI2.out.2.2.2.1 h29 hb0 hg0 h31 HQ.out.1 (HA.out.1.below (bchain HU.out.1 hC)) stp_one (by unfold maxLen; omega) (by have h2 := Nat.mul_le_mul hn30 HI2.out.2.2.2.2; omega) hC
  refine ob_det (c := .agg #[.int .i64 sx, .int .i64 sy, .int .i64 sz]) ?_ ?_
  · intro ρ W hk hC
    simp only [seen, obOp]
    rintro h6
    replace h6 : ρ (.tmp 6) = .pointer (some ⟨w.heap.size + 1 + 1, 0, none⟩) := h6.trans rfl
    exact rel_value (by simp [go_sem, h6, z0 W hC, z1' W hC, z2 W hC]) hC
  refine ⟨OneS U #[.int .i64 sx, .int .i64 sy, .int .i64 sz], fun _ _ _ h k => h.step k, ?_, ?_⟩
  · intro ρ W hk hC
    simp only [seen, obOp, List.getD_cons_zero]
    rintro h33
    exact rel_one (cs := #[.int .i64 sx, .int .i64 sy, .int .i64 sz]) (T := 43) (by simp [go_sem, h33]) hC
  intro vs5 w5 hC5
  simp only [endSeen, List.getD_cons_zero, List.getD_cons_succ]
  intro h34 h32
  simp only [writeAll, List.setIfInBounds_toArray, List.set_cons_zero, List.set_cons_succ]
  obtain ⟨g1, hg1, lg1, lg1', cg1⟩ := h34
  replace h32 : w5.ownsRow U.heap.size 43 3 (vs5 32) n (xs.flatMap Stp.enc) := h32
  rw [hg1]
  have hlow : ∀ kk, (vs5 32).ownBlock = some kk → U.heap.size ≤ kk := fun kk e => (h32.lt kk e).1
  have HT5 := Lib.hid (⟨hC5, hlow⟩ : _ ∧ _)
  clear hlow hg1 hC5
  refine wpListIn_append_own _ rfl _ _ 30 rfl U.heap.size 43 i1 z1 3 i1.bytes Tryd.underlying30 HI2.out.1 HI2.out.2.1 HI2.out.2.2.1 rfl HI2.out.2.2.2.1 (by decide) _ n (xs.flatMap Stp.enc) (by rfl) h32 ⟨g1, 0, none⟩ 1 1 (Stp.enc ⟨sx, sy, sz⟩) (by rfl) rfl ?x1 ?x2 ?x3 ?x4 ?x5 ?_
  case x1 =>
    intro i u hu
    rw [add_at]
    have := cg1 i
    rw [Nat.zero_add, this]
    simpa [Stp.enc] using hu
  case x2 => exact fun u hu => stp_one (xs := [⟨sx, sy, sz⟩]) u (by simpa using hu)
  case x3 => unfold maxLen; omega
  case x4 =>
    have h2 := Nat.mul_le_mul (show n + 1 ≤ 100 by omega) HI2.out.2.2.2.2
    omega
  case x5 => exact HT5.out.1.size
  intro v' w6 hown' hgrow _
  have hb6 : Below U.heap.size U w6 := HT5.out.1.grown hgrow HT5.out.1.size HT5.out.2
  obtain ⟨ys, hys⟩ : ∃ ys, ys = xs ++ [(⟨sx, sy, sz⟩ : Stp)] := ⟨_, rfl⟩
  have hyl : ys.length = n + 1 := by rw [hys, List.length_append, ← HQ.out.1]; rfl
  have hown2 : w6.ownsRow U.heap.size 43 3 v' ys.length (ys.flatMap Stp.enc) := by
    rw [hyl, hys, List.flatMap_append, List.flatMap_cons, List.flatMap_nil, List.append_nil]
    exact hown'
  obtain ⟨MA, mc, rfl, hmc1, hmc2, hMA⟩ := at_of_row (enc := Stp.enc) (k := 3) (fun _ => rfl) (by decide) hown2
  rw [hyl] at hmc1 ⊢
  have hmc3 : mc ≤ 9223372036854775807 := hmc2
  have HM := Lib.hid (⟨hb6, hMA, hys, hyl⟩ : _ ∧ _ ∧ _ ∧ _)
  clear hown' hgrow hown2 hmc2 hb6 hMA hys hyl h32 cg1 lg1 lg1' q2 z0 z1' z2
  obtain ⟨hbx, ⟨s0, s1, s2⟩, ⟨t0, t1, t2⟩, l1, l2⟩ := HX.out.2 w6 (bchain HU.out.2 HM.out.1)
  obtain ⟨c0, c1, c2, c3, c4, c5, c6, c7, c8, c9, c10⟩ := hbx.cells
  have lg := hbx.1
  dsimp only at c0 c1 c2 c3
  clear hbx
  gi_wp2
  go_wp2_with fail
  (with_reducible refine (HST.out w6 (bchain HU.out.1 HM.out.1)).mono ?_)
  rintro e w7 ⟨rfl, b7⟩
  have HB7 := Lib.hid (bchain HM.out.1 b7)
  have HM7 := Lib.hid b7
  clear b7 c0 c1 c2 c3 c4 c5 c6 c7 c8 c9 c10 lg s0 s1 s2 t0 t1 t2 l1 l2
  obtain ⟨hbx, ⟨s0, s1, s2⟩, ⟨t0, t1, t2⟩, l1, l2⟩ := HX.out.2 w7 (bchain HU.out.2 HB7.out)
  obtain ⟨c0, c1, c2, c3, c4, c5, c6, c7, c8, c9, c10⟩ := hbx.cells
  have lg := hbx.1
  dsimp only at c0 c1 c2 c3
  clear hbx
  go_wp2_with fail
  (with_reducible refine (HGO.out w7 (bchain HU.out.1 HB7.out)).mono ?_)
  rintro e w8 ⟨rfl, b8⟩
  have HB8 := Lib.hid (bchain HB7.out b8)
  have HM8 := Lib.hid (bchain HM7.out b8)
  clear b8 c0 c1 c2 c3 c4 c5 c6 c7 c8 c9 c10 lg s0 s1 s2 t0 t1 t2 l1 l2
  go_upto_if 47 with fail
  obtain ⟨qk, hqk⟩ : ∃ q : Bool, q = (qo && lastLk L xs ⟨sx, sy, sz⟩) := ⟨_, rfl⟩
  have HK := Lib.hid hqk
  go_cut [12] (fun s w' => s = .bool qk ∧ Hid (ClB w8 w'))
  case first =>
    by_cases hn0 : 0 < n
    case neg =>
      have f1 : decide ((0 : Int) < (n : Int)) = false := decide_eq_false (by omega)
      have f2 : decide (0 < n) = false := decide_eq_false hn0
      have hxs : xs = [] := List.eq_nil_of_length_eq_zero (by have := HQ.out.1; omega)
      have hk0 : qk = qo := by rw [HK.out, hxs]; simp [lastLk]
      have HKK := Lib.hid hk0
      clear hqk hk0 hxs
      go_wp2_with fail
      all_goals first | (exfalso; omega) | (go_meet; exact ⟨by rw [HKK.out], Lib.hid (Below.refl _ _)⟩)
    have f1 : decide ((0 : Int) < (n : Int)) = true := decide_eq_true (by omega)
    have f2 : decide (0 < n) = true := decide_eq_true hn0
    obtain ⟨nm, hnm⟩ : ∃ nm, n = nm + 1 := ⟨n - 1, by omega⟩
    have hsub : (n : Int) - 1 = (nm : Int) := by omega
    have hwm : IntKind.wrap .i64 (nm : Int) = (nm : Int) := by rw [IntKind.wrap_i64]; omega
    have hml : nm < n := by omega
    have hB8 := bchain HU.out.1 HB8.out
    obtain ⟨b, off, hAe, hrow⟩ := HA.out.1.get (j := nm) (by rw [← HQ.out.1]; exact hml)
    subst hAe
    obtain ⟨x, hx⟩ : ∃ x, xs[nm]? = some x := ⟨_, List.getElem?_eq_getElem (by rw [← HQ.out.1]; exact hml)⟩
    have hlast : xs.getLast? = some x := by rw [List.getLast?_eq_getElem?, ← HQ.out.1, hnm, Nat.add_sub_cancel]; exact hx
    unfold lastLk at hqk
    rw [hlast] at hqk
    dsimp only at hqk
    obtain ⟨xa, xb, xc⟩ := x
    have x0 : w8.cell? ⟨b, off + nm * 3, none⟩ = some (.int .i64 xa) := (hB8.cell (p := ⟨b, off + nm * 3, none⟩) hrow.1).trans (hrow.2 nm _ hx 0 _ rfl)
    have x1 : w8.cell? ⟨b, off + nm * 3 + 1, none⟩ = some (.int .i64 xb) := (hB8.cell (p := ⟨b, off + nm * 3 + 1, none⟩) hrow.1).trans (hrow.2 nm _ hx 1 _ rfl)
    have x2 : w8.cell? ⟨b, off + nm * 3 + 2, none⟩ = some (.int .i64 xc) := (hB8.cell (p := ⟨b, off + nm * 3 + 2, none⟩) hrow.1).trans (hrow.2 nm _ hx 2 _ rfl)
    have lb := Nat.lt_of_lt_of_le hrow.1 hB8.size
    obtain ⟨hbx, ⟨s0, s1, s2⟩, ⟨t0, t1, t2⟩, l1, l2⟩ := HX.out.2 w8 (bchain HU.out.2 HB8.out)
    have HNM := Lib.hid hnm
    have hlk : linkB L ⟨xa, xb, xc⟩ ⟨sx, sy, sz⟩ = decide (beyL L xa xc = ⟨sx, sy⟩) := rfl
    rw [hlk] at hqk
    clear hbx hrow hx hlast hB8 hnm hlk
    go_upto_region 9 with fail
    obtain ⟨W9, hW9⟩ : ∃ W9, W9 = w8.alloc (.cells #[.int .i64 xa, .int .i64 xb, .int .i64 xc] 43) := ⟨_, rfl⟩
    have hVB : Below w8.heap.size w8 W9 := by rw [hW9]; exact bself
    have y0' : W9.cell? ⟨w8.heap.size, 0, none⟩ = some (.int .i64 xa) := by rw [hW9]; simp [go_sem]
    have y2' : W9.cell? ⟨w8.heap.size, 2, none⟩ = some (.int .i64 xc) := by rw [hW9]; simp [go_sem]
    have l9 : w8.heap.size < W9.heap.size := by rw [hW9]; simp
    rw [← hW9]
    have HVB := Lib.hid hVB
    have HXV := Lib.hid (show ClB X W9 from bchain (bchain HU.out.2 HB8.out) hVB)
    clear hW9 hVB x0 x1 x2 lb s0 s1 s2 t0 t1 t2 l1 l2
    generalize hg14 : w8.heap.size = g14 at y0' y2' l9 ⊢
    have HG14 := Lib.hid hg14
    clear hg14
    have y0 : ∀ V', ClB W9 V' → V'.cell? ⟨g14, 0, none⟩ = some (.int .i64 xa) := fun V' h => (h.cell (p := ⟨g14, 0, none⟩) l9).trans y0'
    have y2 : ∀ V', ClB W9 V' → V'.cell? ⟨g14, 2, none⟩ = some (.int .i64 xc) := fun V' h => (h.cell (p := ⟨g14, 2, none⟩) l9).trans y2'
    have z0 : ∀ V', ClB W9 V' → V'.cell? ⟨w.heap.size + 1 + 1, 0, none⟩ = some (.int .i64 sx) := fun V' h => (HX.out.2 V' (HXV.out.step h)).2.2.1.1
    have z1' : ∀ V', ClB W9 V' → V'.cell? ⟨w.heap.size + 1 + 1, 1, none⟩ = some (.int .i64 sy) := fun V' h => (HX.out.2 V' (HXV.out.step h)).2.2.1.2.1
    have HBX := Lib.hid ((HX.out.2 W9 HXV.out).1)
    have hby := fun V' (h : ClB W9 V') => rBey_any L ⟨a0, a1, a2, a3, p0, p1, p2, p3⟩ xa xc V' (HA.out.2.2.1.below (bchain (bchain HX.out.1 HXV.out) h))
    generalize beyL L xa xc = z at hby hqk
    obtain ⟨zs, zp⟩ := z
    dsimp only at hby
    unfold Lay.val at hby
    have HBY := Lib.hid hby
    have hqE := fun V' => eqQ_portI zs zp sx sy V'
    clear hby y0' y2' f1 f2
    cases qo with
    | false =>
      have HKK := Lib.hid (show qk = false by rw [hqk]; rfl)
      clear hqk hqE
      focus
          refine wp_region_rel_below [([(12, none)], none), ([(54, some 0)], none), ([(4, none), (55, some 0)], some (55, true)), ([(14, none), (55, some 1)], some (55, true)), ([(57, some 0), (55, some 2)], some (55, true)), ([(14, none), (55, some 3)], some (55, true)), ([(59, some 0), (55, some 4)], some (55, true)), ([(58, some 2), (60, some 0), (55, some 5)], some (55, true)), ([(56, some 5), (61, some 0), (55, some 6)], some (55, true)), ([(6, none), (55, some 7)], some (55, true)), ([(63, some 0), (55, some 8)], some (55, true)), ([(6, none), (55, some 9)], some (55, true)), ([(65, some 0), (55, some 10)], some (55, true)), ([(64, some 2), (66, some 0), (55, some 11)], some (55, true)), ([(62, some 5), (67, some 0), (55, some 12)], some (55, true)), ([(55, some 13), (68, some 0)], none), ([(69, some 0)], none)] [(0, 12)] (by kernel_rfl) (by kernel_rfl) ?_
          refine ob_det (c := .bool false) ?_ ?_
          · intro ρ W hk hC
            simp only [seen, obOp]
            rintro h12
            replace h12 : ρ (.tmp 12) = .bool false := h12.trans rfl
            exact rel_value (by simp [go_sem, h12]) hC
          refine ob_det (c := .bool false) ?_ ?_
          · intro ρ W hk hC
            simp only [seen, obOp, List.getD_cons_zero]
            rintro h54
            exact rel_value (by simp [go_sem, h54]) hC
          refine ob_det (c := undef) ?_ ?_
          · intro ρ W hk hC
            simp only [seen, obOp, List.getD_cons_zero]
            rintro h4 h55
            replace h4 : ρ (.tmp 4) = .pointer (some ⟨w.heap.size, 0, none⟩) := h4.trans rfl
            exact ⟨fun h => absurd (h.symm.trans h55) (by first | simp | simp [undef]), fun _ => by trivial⟩
          refine ob_det (c := undef) ?_ ?_
          · intro ρ W hk hC
            simp only [seen, obOp, List.getD_cons_zero, List.getD_cons_succ]
            rintro h14 h55
            replace h14 : ρ (.tmp 14) = .pointer (some ⟨g14, 0, none⟩) := h14.trans rfl
            exact ⟨fun h => absurd (h.symm.trans h55) (by first | simp | simp [undef]), fun _ => by trivial⟩
          refine ob_det (c := undef) ?_ ?_
          · intro ρ W hk hC
            simp only [seen, obOp, List.getD_cons_zero, List.getD_cons_succ]
            rintro h57 h55
            exact ⟨fun h => absurd (h.symm.trans h55) (by first | simp | simp [undef]), fun _ => by trivial⟩
          refine ob_det (c := undef) ?_ ?_
          · intro ρ W hk hC
            simp only [seen, obOp, List.getD_cons_zero, List.getD_cons_succ]
            rintro h14 h55
            replace h14 : ρ (.tmp 14) = .pointer (some ⟨g14, 0, none⟩) := h14.trans rfl
            exact ⟨fun h => absurd (h.symm.trans h55) (by first | simp | simp [undef]), fun _ => by trivial⟩
          refine ob_det (c := undef) ?_ ?_
          · intro ρ W hk hC
            simp only [seen, obOp, List.getD_cons_zero, List.getD_cons_succ]
            rintro h59 h55
            exact ⟨fun h => absurd (h.symm.trans h55) (by first | simp | simp [undef]), fun _ => by trivial⟩
          refine ob_det (c := undef) ?_ ?_
          · intro ρ W hk hC
            simp only [seen, obOp, List.getD_cons_zero, List.getD_cons_succ]
            rintro h58 h60 h55
            exact ⟨fun h => absurd (h.symm.trans h55) (by first | simp | simp [undef]), fun _ => by trivial⟩
          refine ob_det (c := undef) ?_ ?_
          · intro ρ W hk hC
            simp only [seen, obOp, List.getD_cons_zero, List.getD_cons_succ]
            rintro h56 h61 h55
            exact ⟨fun h => absurd (h.symm.trans h55) (by first | simp | simp [undef]), fun _ => by trivial⟩
          refine ob_det (c := undef) ?_ ?_
          · intro ρ W hk hC
            simp only [seen, obOp, List.getD_cons_zero, List.getD_cons_succ]
            rintro h6 h55
            replace h6 : ρ (.tmp 6) = .pointer (some ⟨w.heap.size + 1 + 1, 0, none⟩) := h6.trans rfl
            exact ⟨fun h => absurd (h.symm.trans h55) (by first | simp | simp [undef]), fun _ => by trivial⟩
          refine ob_det (c := undef) ?_ ?_
          · intro ρ W hk hC
            simp only [seen, obOp, List.getD_cons_zero, List.getD_cons_succ]
            rintro h63 h55
            exact ⟨fun h => absurd (h.symm.trans h55) (by first | simp | simp [undef]), fun _ => by trivial⟩
          refine ob_det (c := undef) ?_ ?_
          · intro ρ W hk hC
            simp only [seen, obOp, List.getD_cons_zero, List.getD_cons_succ]
            rintro h6 h55
            replace h6 : ρ (.tmp 6) = .pointer (some ⟨w.heap.size + 1 + 1, 0, none⟩) := h6.trans rfl
            exact ⟨fun h => absurd (h.symm.trans h55) (by first | simp | simp [undef]), fun _ => by trivial⟩
          refine ob_det (c := undef) ?_ ?_
          · intro ρ W hk hC
            simp only [seen, obOp, List.getD_cons_zero, List.getD_cons_succ]
            rintro h65 h55
            exact ⟨fun h => absurd (h.symm.trans h55) (by first | simp | simp [undef]), fun _ => by trivial⟩
          refine ob_det (c := undef) ?_ ?_
          · intro ρ W hk hC
            simp only [seen, obOp, List.getD_cons_zero, List.getD_cons_succ]
            rintro h64 h66 h55
            exact ⟨fun h => absurd (h.symm.trans h55) (by first | simp | simp [undef]), fun _ => by trivial⟩
          refine ob_det (c := undef) ?_ ?_
          · intro ρ W hk hC
            simp only [seen, obOp, List.getD_cons_zero, List.getD_cons_succ]
            rintro h62 h67 h55
            exact ⟨fun h => absurd (h.symm.trans h55) (by first | simp | simp [undef]), fun _ => by trivial⟩
          refine ob_det (c := .bool false) ?_ ?_
          · intro ρ W hk hC
            simp only [seen, obOp, List.getD_cons_zero, List.getD_cons_succ]
            rintro h55 h68
            exact rel_value (by simp [go_sem, h55, h68, hk.const]) hC
          refine ob_det (c := .bool false) ?_ ?_
          · intro ρ W hk hC
            simp only [seen, obOp, List.getD_cons_zero]
            rintro h69
            exact rel_value (by simp [go_sem, h69]) hC
          intro vs9 w9 hC9
          simp only [endSeen, List.getD_cons_zero]
          intro h12
          simp only [writeAll, List.setIfInBounds_toArray, List.set_cons_zero, List.set_cons_succ, h12]
          go_wp2_with fail
          go_meet
          exact ⟨by rw [HKK.out], Lib.hid (bchain HVB.out hC9)⟩
    | true =>
      rw [Bool.true_and] at hqk
      by_cases hE : zs = sx ∧ zp = sy
      · have HKK := Lib.hid (show qk = true by rw [hqk, decide_eq_true_iff, hE.1, hE.2])
        rw [decide_eq_true hE] at hqE
        clear hqk hE
        focus
          refine wp_region_rel_below [([(12, none)], none), ([(54, some 0)], none), ([(4, none), (55, some 0)], some (55, true)), ([(14, none), (55, some 1)], some (55, true)), ([(57, some 0), (55, some 2)], some (55, true)), ([(14, none), (55, some 3)], some (55, true)), ([(59, some 0), (55, some 4)], some (55, true)), ([(58, some 2), (60, some 0), (55, some 5)], some (55, true)), ([(56, some 5), (61, some 0), (55, some 6)], some (55, true)), ([(6, none), (55, some 7)], some (55, true)), ([(63, some 0), (55, some 8)], some (55, true)), ([(6, none), (55, some 9)], some (55, true)), ([(65, some 0), (55, some 10)], some (55, true)), ([(64, some 2), (66, some 0), (55, some 11)], some (55, true)), ([(62, some 5), (67, some 0), (55, some 12)], some (55, true)), ([(55, some 13), (68, some 0)], none), ([(69, some 0)], none)] [(0, 12)] (by kernel_rfl) (by kernel_rfl) ?_
          refine ob_det (c := .bool true) ?_ ?_
          · intro ρ W hk hC
            simp only [seen, obOp]
            rintro h12
            replace h12 : ρ (.tmp 12) = .bool true := h12.trans rfl
            exact rel_value (by simp [go_sem, h12]) hC
          refine ob_det (c := .bool true) ?_ ?_
          · intro ρ W hk hC
            simp only [seen, obOp, List.getD_cons_zero]
            rintro h54
            exact rel_value (by simp [go_sem, h54]) hC
          refine ob_det (c := .agg #[.slice a0 L.secs.length p0, .slice a1 L.sigs.length p1, .slice a2 L.exits.length p2, .slice a3 L.flanks.length p3, .int .i64 L.t0, .int .i64 L.t1, .int .i64 L.t2, .int .i64 L.t3, .int .i64 L.t4, .int .i64 L.t5, .int .i64 L.t6]) ?_ ?_
          · intro ρ W hk hC
            simp only [seen, obOp, List.getD_cons_zero]
            rintro h4 h55
            replace h4 : ρ (.tmp 4) = .pointer (some ⟨w.heap.size, 0, none⟩) := h4.trans rfl
            refine ⟨fun _ => ?_, fun hn => absurd h55 hn⟩
            exact rel_value (runLoad h4 (HBX.out.below hC)) hC
          refine ob_det (c := .pointer (some ⟨g14, 0, none⟩)) ?_ ?_
          · intro ρ W hk hC
            simp only [seen, obOp, List.getD_cons_zero, List.getD_cons_succ]
            rintro h14 h55
            replace h14 : ρ (.tmp 14) = .pointer (some ⟨g14, 0, none⟩) := h14.trans rfl
            refine ⟨fun _ => ?_, fun hn => absurd h55 hn⟩
            exact rel_value (by simp [go_sem, h14]) hC
          refine ob_det (c := .int .i64 xa) ?_ ?_
          · intro ρ W hk hC
            simp only [seen, obOp, List.getD_cons_zero, List.getD_cons_succ]
            rintro h57 h55
            refine ⟨fun _ => ?_, fun hn => absurd h55 hn⟩
            exact rel_value (by simp [go_sem, h57, y0 W hC]) hC
          refine ob_det (c := .pointer (some ⟨g14, 2, none⟩)) ?_ ?_
          · intro ρ W hk hC
            simp only [seen, obOp, List.getD_cons_zero, List.getD_cons_succ]
            rintro h14 h55
            replace h14 : ρ (.tmp 14) = .pointer (some ⟨g14, 0, none⟩) := h14.trans rfl
            refine ⟨fun _ => ?_, fun hn => absurd h55 hn⟩
            exact rel_value (by simp [go_sem, h14]) hC
          refine ob_det (c := .int .i64 xc) ?_ ?_
          · intro ρ W hk hC
            simp only [seen, obOp, List.getD_cons_zero, List.getD_cons_succ]
            rintro h59 h55
            refine ⟨fun _ => ?_, fun hn => absurd h55 hn⟩
            exact rel_value (by simp [go_sem, h59, y2 W hC]) hC
          refine ob_det (c := .agg #[.int .i64 xa, .int .i64 xc]) ?_ ?_
          · intro ρ W hk hC
            simp only [seen, obOp, List.getD_cons_zero, List.getD_cons_succ]
            rintro h58 h60 h55
            refine ⟨fun _ => ?_, fun hn => absurd h55 hn⟩
            exact rel_value (by simp [go_sem, h58, h60]) hC
          refine ob_det (c := .agg #[.int .i64 zs, .int .i64 zp]) ?_ ?_
          · intro ρ W hk hC
            simp only [seen, obOp, List.getD_cons_zero, List.getD_cons_succ]
            rintro h56 h61 h55
            refine ⟨fun _ => ?_, fun hn => absurd h55 hn⟩
            exact rel_call (f := 13) (args := #[.agg #[.slice a0 L.secs.length p0, .slice a1 L.sigs.length p1, .slice a2 L.exits.length p2, .slice a3 L.flanks.length p3, .int .i64 L.t0, .int .i64 L.t1, .int .i64 L.t2, .int .i64 L.t3, .int .i64 L.t4, .int .i64 L.t5, .int .i64 L.t6], .agg #[.int .i64 xa, .int .i64 xc]]) (by simp [go_sem, h56, h61, hk.func]) hC (HBY.out W hC)
          refine ob_det (c := .pointer (some ⟨w.heap.size + 1 + 1, 0, none⟩)) ?_ ?_
          · intro ρ W hk hC
            simp only [seen, obOp, List.getD_cons_zero, List.getD_cons_succ]
            rintro h6 h55
            replace h6 : ρ (.tmp 6) = .pointer (some ⟨w.heap.size + 1 + 1, 0, none⟩) := h6.trans rfl
            refine ⟨fun _ => ?_, fun hn => absurd h55 hn⟩
            exact rel_value (by simp [go_sem, h6]) hC
          refine ob_det (c := .int .i64 sx) ?_ ?_
          · intro ρ W hk hC
            simp only [seen, obOp, List.getD_cons_zero, List.getD_cons_succ]
            rintro h63 h55
            refine ⟨fun _ => ?_, fun hn => absurd h55 hn⟩
            exact rel_value (by simp [go_sem, h63, z0 W hC]) hC
          refine ob_det (c := .pointer (some ⟨w.heap.size + 1 + 1, 1, none⟩)) ?_ ?_
          · intro ρ W hk hC
            simp only [seen, obOp, List.getD_cons_zero, List.getD_cons_succ]
            rintro h6 h55
            replace h6 : ρ (.tmp 6) = .pointer (some ⟨w.heap.size + 1 + 1, 0, none⟩) := h6.trans rfl
            refine ⟨fun _ => ?_, fun hn => absurd h55 hn⟩
            exact rel_value (by simp [go_sem, h6]) hC
          refine ob_det (c := .int .i64 sy) ?_ ?_
          · intro ρ W hk hC
            simp only [seen, obOp, List.getD_cons_zero, List.getD_cons_succ]
            rintro h65 h55
            refine ⟨fun _ => ?_, fun hn => absurd h55 hn⟩
            exact rel_value (by simp [go_sem, h65, z1' W hC]) hC
          refine ob_det (c := .agg #[.int .i64 sx, .int .i64 sy]) ?_ ?_
          · intro ρ W hk hC
            simp only [seen, obOp, List.getD_cons_zero, List.getD_cons_succ]
            rintro h64 h66 h55
            refine ⟨fun _ => ?_, fun hn => absurd h55 hn⟩
            exact rel_value (by simp [go_sem, h64, h66]) hC
          refine ob_det (c := .bool true) ?_ ?_
          · intro ρ W hk hC
            simp only [seen, obOp, List.getD_cons_zero, List.getD_cons_succ]
            rintro h62 h67 h55
            refine ⟨fun _ => ?_, fun hn => absurd h55 hn⟩
            exact rel_value (by simp [go_sem, h62, h67, hqE]) hC
          refine ob_det (c := .bool true) ?_ ?_
          · intro ρ W hk hC
            simp only [seen, obOp, List.getD_cons_zero, List.getD_cons_succ]
            rintro h55 h68
            exact rel_value (by simp [go_sem, h55, h68, hk.const]) hC
          refine ob_det (c := .bool true) ?_ ?_
          · intro ρ W hk hC
            simp only [seen, obOp, List.getD_cons_zero]
            rintro h69
            exact rel_value (by simp [go_sem, h69]) hC
          intro vs9 w9 hC9
          simp only [endSeen, List.getD_cons_zero]
          intro h12
          simp only [writeAll, List.setIfInBounds_toArray, List.set_cons_zero, List.set_cons_succ, h12]
          go_wp2_with fail
          go_meet
          exact ⟨by rw [HKK.out], Lib.hid (bchain HVB.out hC9)⟩
      · have HKK := Lib.hid (show qk = false by rw [hqk, decide_eq_false_iff_not]; intro h; cases h; exact hE ⟨rfl, rfl⟩)
        rw [decide_eq_false hE] at hqE
        clear hqk hE
        focus
          refine wp_region_rel_below [([(12, none)], none), ([(54, some 0)], none), ([(4, none), (55, some 0)], some (55, true)), ([(14, none), (55, some 1)], some (55, true)), ([(57, some 0), (55, some 2)], some (55, true)), ([(14, none), (55, some 3)], some (55, true)), ([(59, some 0), (55, some 4)], some (55, true)), ([(58, some 2), (60, some 0), (55, some 5)], some (55, true)), ([(56, some 5), (61, some 0), (55, some 6)], some (55, true)), ([(6, none), (55, some 7)], some (55, true)), ([(63, some 0), (55, some 8)], some (55, true)), ([(6, none), (55, some 9)], some (55, true)), ([(65, some 0), (55, some 10)], some (55, true)), ([(64, some 2), (66, some 0), (55, some 11)], some (55, true)), ([(62, some 5), (67, some 0), (55, some 12)], some (55, true)), ([(55, some 13), (68, some 0)], none), ([(69, some 0)], none)] [(0, 12)] (by kernel_rfl) (by kernel_rfl) ?_
          refine ob_det (c := .bool true) ?_ ?_
          · intro ρ W hk hC
            simp only [seen, obOp]
            rintro h12
            replace h12 : ρ (.tmp 12) = .bool true := h12.trans rfl
            exact rel_value (by simp [go_sem, h12]) hC
          refine ob_det (c := .bool true) ?_ ?_
          · intro ρ W hk hC
            simp only [seen, obOp, List.getD_cons_zero]
            rintro h54
            exact rel_value (by simp [go_sem, h54]) hC
          refine ob_det (c := .agg #[.slice a0 L.secs.length p0, .slice a1 L.sigs.length p1, .slice a2 L.exits.length p2, .slice a3 L.flanks.length p3, .int .i64 L.t0, .int .i64 L.t1, .int .i64 L.t2, .int .i64 L.t3, .int .i64 L.t4, .int .i64 L.t5, .int .i64 L.t6]) ?_ ?_
          · intro ρ W hk hC
            simp only [seen, obOp, List.getD_cons_zero]
            rintro h4 h55
            replace h4 : ρ (.tmp 4) = .pointer (some ⟨w.heap.size, 0, none⟩) := h4.trans rfl
            refine ⟨fun _ => ?_, fun hn => absurd h55 hn⟩
            exact rel_value (runLoad h4 (HBX.out.below hC)) hC
          refine ob_det (c := .pointer (some ⟨g14, 0, none⟩)) ?_ ?_
          · intro ρ W hk hC
            simp only [seen, obOp, List.getD_cons_zero, List.getD_cons_succ]
            rintro h14 h55
            replace h14 : ρ (.tmp 14) = .pointer (some ⟨g14, 0, none⟩) := h14.trans rfl
            refine ⟨fun _ => ?_, fun hn => absurd h55 hn⟩
            exact rel_value (by simp [go_sem, h14]) hC
          refine ob_det (c := .int .i64 xa) ?_ ?_
          · intro ρ W hk hC
            simp only [seen, obOp, List.getD_cons_zero, List.getD_cons_succ]
            rintro h57 h55
            refine ⟨fun _ => ?_, fun hn => absurd h55 hn⟩
            exact rel_value (by simp [go_sem, h57, y0 W hC]) hC
          refine ob_det (c := .pointer (some ⟨g14, 2, none⟩)) ?_ ?_
          · intro ρ W hk hC
            simp only [seen, obOp, List.getD_cons_zero, List.getD_cons_succ]
            rintro h14 h55
            replace h14 : ρ (.tmp 14) = .pointer (some ⟨g14, 0, none⟩) := h14.trans rfl
            refine ⟨fun _ => ?_, fun hn => absurd h55 hn⟩
            exact rel_value (by simp [go_sem, h14]) hC
          refine ob_det (c := .int .i64 xc) ?_ ?_
          · intro ρ W hk hC
            simp only [seen, obOp, List.getD_cons_zero, List.getD_cons_succ]
            rintro h59 h55
            refine ⟨fun _ => ?_, fun hn => absurd h55 hn⟩
            exact rel_value (by simp [go_sem, h59, y2 W hC]) hC
          refine ob_det (c := .agg #[.int .i64 xa, .int .i64 xc]) ?_ ?_
          · intro ρ W hk hC
            simp only [seen, obOp, List.getD_cons_zero, List.getD_cons_succ]
            rintro h58 h60 h55
            refine ⟨fun _ => ?_, fun hn => absurd h55 hn⟩
            exact rel_value (by simp [go_sem, h58, h60]) hC
          refine ob_det (c := .agg #[.int .i64 zs, .int .i64 zp]) ?_ ?_
          · intro ρ W hk hC
            simp only [seen, obOp, List.getD_cons_zero, List.getD_cons_succ]
            rintro h56 h61 h55
            refine ⟨fun _ => ?_, fun hn => absurd h55 hn⟩
            exact rel_call (f := 13) (args := #[.agg #[.slice a0 L.secs.length p0, .slice a1 L.sigs.length p1, .slice a2 L.exits.length p2, .slice a3 L.flanks.length p3, .int .i64 L.t0, .int .i64 L.t1, .int .i64 L.t2, .int .i64 L.t3, .int .i64 L.t4, .int .i64 L.t5, .int .i64 L.t6], .agg #[.int .i64 xa, .int .i64 xc]]) (by simp [go_sem, h56, h61, hk.func]) hC (HBY.out W hC)
          refine ob_det (c := .pointer (some ⟨w.heap.size + 1 + 1, 0, none⟩)) ?_ ?_
          · intro ρ W hk hC
            simp only [seen, obOp, List.getD_cons_zero, List.getD_cons_succ]
            rintro h6 h55
            replace h6 : ρ (.tmp 6) = .pointer (some ⟨w.heap.size + 1 + 1, 0, none⟩) := h6.trans rfl
            refine ⟨fun _ => ?_, fun hn => absurd h55 hn⟩
            exact rel_value (by simp [go_sem, h6]) hC
          refine ob_det (c := .int .i64 sx) ?_ ?_
          · intro ρ W hk hC
            simp only [seen, obOp, List.getD_cons_zero, List.getD_cons_succ]
            rintro h63 h55
            refine ⟨fun _ => ?_, fun hn => absurd h55 hn⟩
            exact rel_value (by simp [go_sem, h63, z0 W hC]) hC
          refine ob_det (c := .pointer (some ⟨w.heap.size + 1 + 1, 1, none⟩)) ?_ ?_
          · intro ρ W hk hC
            simp only [seen, obOp, List.getD_cons_zero, List.getD_cons_succ]
            rintro h6 h55
            replace h6 : ρ (.tmp 6) = .pointer (some ⟨w.heap.size + 1 + 1, 0, none⟩) := h6.trans rfl
            refine ⟨fun _ => ?_, fun hn => absurd h55 hn⟩
            exact rel_value (by simp [go_sem, h6]) hC
          refine ob_det (c := .int .i64 sy) ?_ ?_
          · intro ρ W hk hC
            simp only [seen, obOp, List.getD_cons_zero, List.getD_cons_succ]
            rintro h65 h55
            refine ⟨fun _ => ?_, fun hn => absurd h55 hn⟩
            exact rel_value (by simp [go_sem, h65, z1' W hC]) hC
          refine ob_det (c := .agg #[.int .i64 sx, .int .i64 sy]) ?_ ?_
          · intro ρ W hk hC
            simp only [seen, obOp, List.getD_cons_zero, List.getD_cons_succ]
            rintro h64 h66 h55
            refine ⟨fun _ => ?_, fun hn => absurd h55 hn⟩
            exact rel_value (by simp [go_sem, h64, h66]) hC
          refine ob_det (c := .bool false) ?_ ?_
          · intro ρ W hk hC
            simp only [seen, obOp, List.getD_cons_zero, List.getD_cons_succ]
            rintro h62 h67 h55
            refine ⟨fun _ => ?_, fun hn => absurd h55 hn⟩
            exact rel_value (by simp [go_sem, h62, h67, hqE]) hC
          refine ob_det (c := .bool false) ?_ ?_
          · intro ρ W hk hC
            simp only [seen, obOp, List.getD_cons_zero, List.getD_cons_succ]
            rintro h55 h68
            exact rel_value (by simp [go_sem, h55, h68, hk.const]) hC
          refine ob_det (c := .bool false) ?_ ?_
          · intro ρ W hk hC
            simp only [seen, obOp, List.getD_cons_zero]
            rintro h69
            exact rel_value (by simp [go_sem, h69]) hC
          intro vs9 w9 hC9
          simp only [endSeen, List.getD_cons_zero]
          intro h12
          simp only [writeAll, List.setIfInBounds_toArray, List.set_cons_zero, List.set_cons_succ, h12]
          go_wp2_with fail
          go_meet
          exact ⟨by rw [HKK.out], Lib.hid (bchain HVB.out hC9)⟩
  case rest =>
  clear hqk
  obtain ⟨rfl, HCC⟩ := hcut
  have HC1 := Lib.hid (show ClB X wc from bchain (bchain HU.out.2 HB8.out) HCC.out)
  obtain ⟨hbx, ⟨s0, s1, s2⟩, ⟨t0, t1, t2⟩, l1, l2⟩ := HX.out.2 wc HC1.out
  clear hbx
  go_wp2_with fail
  obtain ⟨Z, hZ⟩ : ∃ Z, Z = wc.alloc (.cells #[.int .i64 sg, .int .i64 ex, .slice MA (n + 1) mc] 32) := ⟨_, rfl⟩
  have hZB : Below wc.heap.size wc Z := by rw [hZ]; exact bself
  have hmz : ∀ o, Z.cell? ⟨wc.heap.size, o, none⟩ = (#[.int .i64 sg, .int .i64 ex, .slice MA (n + 1) mc] : Array Value)[o]? := fun o => by rw [hZ]; simp [go_sem]
  have lz : wc.heap.size < Z.heap.size := by rw [hZ]; simp
  rw [← hZ]
  have HZX := Lib.hid (show ClB X Z from HC1.out.step hZB)
  have HZM := Lib.hid (show ClB w6 Z from bchain (bchain HM8.out HCC.out) hZB)
  clear hZ hZB s0 s1 s2 t0 t1 t2 l1 l2
  generalize wc.heap.size = g15 at hmz lz ⊢
  have hallM : ∀ V', ClB Z V' → (V'.cell? ⟨g15, 0, none⟩ = some (.int .i64 sg) ∧ V'.cell? ⟨g15, 1, none⟩ = some (.int .i64 ex) ∧ V'.cell? ⟨g15, 2, none⟩ = some (.slice MA (n + 1) mc)) ∧ g15 < V'.heap.size := fun V' h => by
    have g1 : ∀ o, V'.cell? ⟨g15, o, none⟩ = Z.cell? ⟨g15, o, none⟩ := fun o => h.cell (p := ⟨g15, o, none⟩) lz
    exact ⟨⟨(g1 0).trans (hmz 0), (g1 1).trans (hmz 1), (g1 2).trans (hmz 2)⟩, Nat.lt_of_lt_of_le lz h.size⟩
  have HAM := Lib.hid hallM
  clear hallM hmz lz
  have hth0 := HTH.out Z (bchain HX.out.1 HZX.out)
  (with_reducible refine hth0.mono ?_)
  clear hth0
  rintro e w11 ⟨rfl, b11⟩
  have HZ1 := Lib.hid (show ClB Z w11 from b11)
  clear b11
  go_upto_region 13 with fail
  go_cut [92] (fun s w' => s = .bool false ∧ Hid (ClB w11 w'))
  case first =>
    obtain ⟨hbx, ⟨s0, s1, s2⟩, ⟨t0, t1, t2⟩, l1, l2⟩ := HX.out.2 w11 (HZX.out.step HZ1.out)
    obtain ⟨c0, c1, c2, c3, c4, c5, c6, c7, c8, c9, c10⟩ := hbx.cells
    have lg := hbx.1
    dsimp only at c0 c1 c2 c3
    have hB11 := bchain HX.out.1 (HZX.out.step HZ1.out)
    have hgm := goes_any L ⟨a0, a1, a2, a3, p0, p1, p2, p3⟩ MA mc ys w11 (HA.out.2.2.1.below hB11) (HA.out.2.2.2.1.below hB11) (HA.out.2.2.2.2.below hB11) (HM.out.2.1.below (HZM.out.step HZ1.out)) (by rw [HM.out.2.2.2]; exact hmc1) hmc3
    rw [HM.out.2.2.2, HM.out.2.2.1, goes_more2, ← HQ.out.2.2.1, ← HQ.out.2.2.2.1, ← HK.out] at hgm
    unfold Lay.val at hgm
    have HGM := Lib.hid hgm
    clear hgm hbx hB11
    go_wp2_with fail
    (with_reducible refine HGM.out.mono ?_)
    rintro e w12 ⟨rfl, b12⟩
    have HC12 := Lib.hid (show ClB w11 w12 from b12)
    clear b12 c0 c1 c2 c3 c4 c5 c6 c7 c8 c9 c10 lg s0 s1 s2 t0 t1 t2 l1 l2
    cases qh with
    | false =>
      cases qg <;> cases qk <;> (go_wp2_with fail; go_meet; exact ⟨rfl, HC12⟩)
    | true =>
      obtain ⟨⟨m0, m1, m2⟩, lm⟩ := HAM.out w12 (HZ1.out.step HC12.out)
      have hth := through_any sg ex MA V mc vcap ys vs w12 (HM.out.2.1.below ((HZM.out.step HZ1.out).step HC12.out)) (HA.out.2.1.below (bchain HX.out.1 ((HZX.out.step HZ1.out).step HC12.out))) (by rw [HM.out.2.2.2]; omega) (by rw [← HQ.out.2.1]; exact hv) hvm
      rw [HM.out.2.2.2, HM.out.2.2.1, through_more _ HQ.out.2.2.2.2.symm, ← HQ.out.2.1] at hth
      have HTM := Lib.hid hth
      clear hth
      cases qg <;> cases qk <;> (
        go_wp2_with fail
        (with_reducible refine HTM.out.mono ?_)
        rintro e w13 ⟨rfl, b13⟩
        have HC13 := Lib.hid (show ClB w11 w13 from HC12.out.step b13)
        clear b13
        go_wp2_with fail
        go_meet
        exact ⟨rfl, HC13⟩)
  case rest =>
  obtain ⟨rfl, HCY⟩ := hcut
  obtain ⟨Y, hY⟩ : ∃ Y, Y = wc := ⟨_, rfl⟩
  subst hY
  have HZY := Lib.hid (show ClB Z Y from HZ1.out.step HCY.out)
  have HXY := Lib.hid (show ClB X Y from HZX.out.step HZY.out)
  have HY := Lib.hid (show Below w.heap.size w Y from bchain HX.out.1 HXY.out)
  obtain ⟨i0, zz0, hi, hz, hs1, hs2, hs3⟩ := info_int
  have HI1 := Lib.hid (⟨hi, hz, hs1, hs2, hs3⟩ : _ ∧ _ ∧ _ ∧ _ ∧ _)
  have hv10 : vn ≤ 10 := by omega
  have htb : ∀ (V' : World) (RA : Option Addr) (rc : Nat), ClB Y V' → At V' 1 intEnc RA (vs ++ [sx]) → vn + 1 ≤ rc → rc ≤ maxLen → Calls Tryd.prog 17 #[.agg #[.int .i64 sg, .int .i64 ex, .slice MA (n + 1) mc], .slice RA (vn + 1) rc] V' fun e w' => e = .returned (.bool qh) ∧ Below V'.heap.size V' w' := fun V' RA rc h hA1 hr1 hr2 => by
    have hvl : (vs ++ [sx]).length = vn + 1 := by rw [List.length_append, ← HQ.out.2.1]; rfl
    have hh := through_any sg ex MA RA mc rc ys (vs ++ [sx]) V' (HM.out.2.1.below ((HZM.out.step HZY.out).step h)) hA1 (by rw [HM.out.2.2.2]; omega) (by rw [hvl]; exact hr1) hr2
    rw [hvl, HM.out.2.2.2, HM.out.2.2.1, through_both vs xs ⟨sx, sy, sz⟩, ← HQ.out.2.2.2.2] at hh
    exact hh
  have HTB := Lib.hid htb
  have m0 : ∀ V', ClB Y V' → V'.cell? ⟨g15, 0, none⟩ = some (.int .i64 sg) := fun V' h => (HAM.out V' (HZY.out.step h)).1.1
  have m1 : ∀ V', ClB Y V' → V'.cell? ⟨g15, 1, none⟩ = some (.int .i64 ex) := fun V' h => (HAM.out V' (HZY.out.step h)).1.2.1
  have m2 : ∀ V', ClB Y V' → V'.cell? ⟨g15, 2, none⟩ = some (.slice MA (n + 1) mc) := fun V' h => (HAM.out V' (HZY.out.step h)).1.2.2
  have z0 : ∀ V', ClB Y V' → V'.cell? ⟨w.heap.size + 1 + 1, 0, none⟩ = some (.int .i64 sx) := fun V' h => (HX.out.2 V' (HXY.out.step h)).2.2.1.1
  clear hi hz hs1 hs2 hs3 htb
  go_upto_region 15 with fail
  refine wp_region_rel_row 3 vn (.int .i64 sx) [([(15, none)], none), ([], none), ([(3, none)], none), ([(94, some 1), (95, some 0)], none), ([(6, none)], none), ([(97, some 0)], none), ([(98, some 0)], none), ([(96, some 3), (99, some 0)], none), ([(93, some 7), (100, some 0)], none), ([(16, none)], none), ([(101, some 1), (102, some 0)], none), ([(103, some 0)], none), ([(104, some 0)], some (104, true)), ([(104, some 1), (105, some 0)], none), ([(106, some 0)], none)] [(0, 8)] (by kernel_rfl) (by kernel_rfl) ?_
  refine ob_det (c := .agg #[.int .i64 sg, .int .i64 ex, .slice MA (n + 1) mc]) ?_ ?_
  · intro ρ W hk hC
    simp only [seen, obOp]
    rintro h15
    replace h15 : ρ (.tmp 15) = .pointer (some ⟨g15, 0, none⟩) := h15.trans rfl
    exact relR_value (by simp [go_sem, h15, m0 W hC, m1 W hC, m2 W hC]) hC
  refine ⟨EmptyI Y 3, fun _ _ _ h k => h.st k, ?_, ?_⟩
  · intro ρ W hk hC
    simp only [seen, obOp]
    exact (rel_empty (by simp [go_sem]) hC).row
  refine ob_det (c := .slice V vn vcap) ?_ ?_
  · intro ρ W hk hC
    simp only [seen, obOp]
    rintro h3
    replace h3 : ρ (.tmp 3) = .slice V vn vcap := h3.trans rfl
    exact relR_value (by simp [go_sem, h3]) hC
  refine ⟨RowI Y 3 vn (vs.flatMap intEnc), fun _ _ _ h k => h.st k (fun hlt => absurd hlt (Nat.lt_irrefl _)), ?_, ?_⟩
  · intro ρ W hk hC
    simp only [seen, obOp, List.getD_cons_zero, List.getD_cons_succ]
    rintro ⟨g0, h94, hb0, hg0⟩ h95
    exact (rel_append_empty Tryd.underlying33 HI1.out.1 HI1.out.2.1 HI1.out.2.2.1 rfl HI1.out.2.2.2.1 h94 hb0 hg0 h95 HQ.out.2.1 (HA.out.2.1.below (bchain HY.out hC)) (by unfold maxLen; omega) (by have h2 := Nat.mul_le_mul hv10 HI1.out.2.2.2.2; omega) hC).row
  refine ob_det (c := .pointer (some ⟨w.heap.size + 1 + 1, 0, none⟩)) ?_ ?_
  · intro ρ W hk hC
    simp only [seen, obOp]
    rintro h6
    replace h6 : ρ (.tmp 6) = .pointer (some ⟨w.heap.size + 1 + 1, 0, none⟩) := h6.trans rfl
    exact relR_value (by simp [go_sem, h6]) hC
  refine ob_det (c := .int .i64 sx) ?_ ?_
  · intro ρ W hk hC
    simp only [seen, obOp, List.getD_cons_zero]
    rintro h97
    exact relR_value (by simp [go_sem, h97, z0 W hC]) hC
  refine ⟨RowI Y 3 1 [.int .i64 sx], fun _ _ _ h k => h.st k (fun hlt => one_at (by omega)), ?_, ?_⟩
  · intro ρ W hk hC
    simp only [seen, obOp, List.getD_cons_zero]
    rintro h98
    exact (rel_oneI (by simp [go_sem, h98]) hC).row
  refine ⟨RowI Y 3 (vn + 1) (vs.flatMap intEnc ++ [.int .i64 sx]), fun _ _ _ h k => h.st k (fun _ => by rw [List.getElem?_append_right (by rw [flat_len (k := 1) (fun _ => rfl)]; have := HQ.out.2.1; omega), flat_len (k := 1) (fun _ => rfl), ← HQ.out.2.1, Nat.mul_one, Nat.sub_self]; rfl), ?_, ?_⟩
  · intro ρ W hk hC
    simp only [seen, obOp, List.getD_cons_zero, List.getD_cons_succ]
    rintro h96 h99
    exact rel_append_row Tryd.underlying33 HI1.out.1 HI1.out.2.1 HI1.out.2.2.1 rfl HI1.out.2.2.2.1 rfl (by rw [flat_len (k := 1) (fun _ => rfl), Nat.mul_one]; exact HQ.out.2.1.symm) h96 h99 (by unfold maxLen; omega) (by have h2 := Nat.mul_le_mul (show vn + 1 ≤ 100 by omega) HI1.out.2.2.2.2; omega) hC
  refine ⟨fun v _ => v = .bool qh, fun _ _ _ h _ => h, ?_, ?_⟩
  · intro ρ W hk hC
    simp only [seen, obOp, List.getD_cons_zero, List.getD_cons_succ]
    rintro h93 h100
    obtain ⟨RA, rc, e100, hRA, hr1, hr2⟩ := RowI.at (zs := vs ++ [sx]) (by rw [List.flatMap_append]; exact h100)
    exact relR_call (f := 17) (args := #[.agg #[.int .i64 sg, .int .i64 ex, .slice MA (n + 1) mc], .slice RA (vn + 1) rc]) (by simp [go_sem, h93, e100, hk.func]) hC (HTB.out W RA rc hC hRA hr1 hr2)
  refine ob_det (c := .bool qh) ?_ ?_
  · intro ρ W hk hC
    simp only [seen, obOp]
    rintro h16
    replace h16 : ρ (.tmp 16) = .bool qh := h16.trans rfl
    exact relR_value (by simp [go_sem, h16]) hC
  refine ob_det (c := .bool true) ?_ ?_
  · intro ρ W hk hC
    simp only [seen, obOp, List.getD_cons_zero, List.getD_cons_succ]
    rintro h101 h102
    exact relR_value (by simp [go_sem, h101, h102]) hC
  refine ob_det (c := .bool true) ?_ ?_
  · intro ρ W hk hC
    simp only [seen, obOp, List.getD_cons_zero]
    rintro h103
    exact relR_value (by simp [go_sem, h103]) hC
  refine ob_det (c := .bool true) ?_ ?_
  · intro ρ W hk hC
    simp only [seen, obOp, List.getD_cons_zero]
    rintro h104
    refine ⟨fun _ => ?_, fun hn => absurd h104 hn⟩
    exact relR_call (f := 9) (args := #[]) (by simp [go_sem, hk.func]) hC (HWK.out W (bchain HY.out hC))
  refine ob_det (c := .bool true) ?_ ?_
  · intro ρ W hk hC
    simp only [seen, obOp, List.getD_cons_zero, List.getD_cons_succ]
    rintro h104 h105
    exact relR_value (by simp [go_sem, h104, h105, hk.const]) hC
  refine ob_det (c := .bool true) ?_ ?_
  · intro ρ W hk hC
    simp only [seen, obOp, List.getD_cons_zero]
    rintro h106
    exact relR_value (by simp [go_sem, h106]) hC
  intro vs6 w14 hC14
  simp only [endSeen, List.getD_cons_zero]
  intro h8
  simp only [writeAll, List.setIfInBounds_toArray, List.set_cons_zero, List.set_cons_succ, h8]
  go_wp2
  go_ret
  exact ⟨rfl, bchain HY.out hC14⟩
end Go.Proofs.YtpcojaoeahdgcaaDoor

/-
  RouteGoes: steps go just if each is there, and each two side by side hang together; and vias that are gone through are so in a longer path, too.
  Conditions: port.kinds and port.none (and join.end, where it is listed) start as the program's text lays them (the tied card; it ties them to the pruned copy that the seat holds).
-/
namespace Go.Proofs.YtpcojaoeahdgcaaDoor
open Go.RowKit Go.WideShapes Go.ChangeShapes Go.ChangeAt Go.WideMaps Go.WideElems Go.Joins Go.Deep

set_option maxRecDepth 100000 in
theorem routeGoes_lifted (os : Os) (started : os.Started) (H : Type) (enc : TypeId × Value → H) :
    ReturnsInHanded {} Tryd.checked os 6 .any (fun w args => (Rows.routeGoesSpec.pre enc Tryd.prog Tryd.f6 [] false w args ∧ laidMetH Tryd.prog laidL w) ∧ sizedMet enc Tryd.prog Tryd.f6 (OpenSpec.ofChange Rows.routeGoesSpec) false w args)
      (Rows.routeGoesSpec.post enc Tryd.prog Tryd.f6 false true false false) := by
  refine law_lifted_laid (C := Tryd.checked) (tb := 4) ownP started (by kernel_rfl) Tryd.func6
    (ChangeSpec.witness_shaped (enc := enc) (C := Tryd.checked) (os := os) (X := fun w _ => laidMetH Tryd.prog laidL w) false (World.doorLaid Tryd.prog 400 os) #[.agg #[.slice none 0 0, .slice none 0 0, .slice none 0 0, .slice none 0 0, .int .i64 0, .int .i64 0, .int .i64 0, .int .i64 0, .int .i64 0, .int .i64 0, .int .i64 0], .agg #[.int .i64 0, .int .i64 0, .slice none 0 0], .agg #[.int .i64 0, .int .i64 0, .int .i64 0], .slice none 0 0] 8 rfl (World.shaped_of_RefB (by kernel_rfl) (by kernel_rfl)) (by kernel_rfl) (by kernel_rfl) (by kernel_rfl) (door_met os _))
    laidP (by kernel_rfl) rfl rfl Tryd.underlying4 ?_
  intro W base args ds p hval0 hA0 hlt hL
  have hval : ∀ (j : Nat) t v, Tryd.f6.params[j]? = some t → args[j]? = some v → Value.okWide Tryd.prog W .any base t v := hval0
  have hA : DataW.TrodAll enc Tryd.prog W 0 (fun _ => true) true Tryd.f6.params.toList args.toList ds p := hA0
  clear hval0 hA0
  rw [Tryd.params6] at hA hval
  obtain ⟨vs⟩ := args
  dsimp only at hA
  obtain ⟨v0, vs0, d0, ds0, p0, q0, rfl, rfl, rfl, h0, hA⟩ := trodAll_cons hA
  obtain ⟨v1, vs1, d1, ds1, p1, q1, rfl, rfl, rfl, h1, hA⟩ := trodAll_cons hA
  obtain ⟨v2, vs2, d2, ds2, p2, q2, rfl, rfl, rfl, h2, hA⟩ := trodAll_cons hA
  obtain ⟨v3, vs3, d3, ds3, p3, q3, rfl, rfl, rfl, h3, hA⟩ := trodAll_cons hA
  obtain ⟨rfl, rfl, rfl⟩ := trodAll_nil hA
  obtain ⟨L0, w0, rfl, hl0⟩ := open_layout (hval 0 29 v0 rfl rfl) h0
  obtain ⟨sg1, ex1, A1, cap1, xs1, rfl, hA1, hl1, hm1⟩ := open_path (hval 1 32 v1 rfl rfl) h1
  obtain ⟨x2, y2, z2, rfl⟩ := open_step (hval 2 43 v2 rfl rfl) h2
  obtain ⟨V3, vcap3, zs3, rfl, hV3, hv3, hvm3⟩ := open_intsV (hval 3 33 v3 rfl rfl) h3
  exact ⟨⟨rfl, rfl, rfl⟩, routeGoes_walk L0 w0 sg1 ex1 A1 cap1 xs1 x2 y2 z2 V3 vcap3 zs3 W hl0 hA1 hl1 hm1 hV3 hv3 hvm3 (kinds_of_laid hL)⟩

theorem routeGoes_holds : Rows.RouteGoesSaid :=
  OpenClaim.holds_of_wide 6 Tryd.f6 rfl rfl rfl rfl rfl rfl rfl ⟨rfl, rfl, rfl, rfl, rfl⟩ rfl rfl rfl rfl rfl (by kernel_rfl) Tryd.func6 (by kernel_rfl)
    (of_decide_eq_true (by kernel_rfl)) (by unfold Func.isWrapper; first | (rw [if_pos (by decide +kernel)]; kernel_rfl) | (rw [if_neg (of_decide_eq_false (by kernel_rfl))]; exact ⟨rfl, rfl⟩))
    (fun os started H enc _ => routeGoes_lifted os started H enc)

theorem routeGoes_card : Rows.RouteGoesCardSaid :=
  Claim7.holds_tied_plain_at .later [] [.data, .data, .data] true (true, "cfff4adc463c6f9ce7949ac5343bd4b581054832799839b491415a10a7ea59f5") false
    routeGoes_holds (fun _ h => by cases h) (by kernel_rfl) (fun _ h => by cases h) routeGoes_row_tie rfl ⟨rfl, rfl⟩ (by kernel_rfl) rfl
    (fun f fn hf hfn => by
      obtain rfl : f = 6 := Option.some.inj ((show Tryd.prog.funcNamed "lockbar/lockbarlaw11.RouteGoes" = some 6 by kernel_rfl).symm.trans hf) |>.symm
      obtain rfl : fn = Tryd.f6 := (Option.some.inj (Tryd.func6.symm.trans hfn)).symm
      exact ⟨by kernel_rfl, fun j t ht => by
        rw [Tryd.params6] at ht
        have hm : t ∈ [29, 32, 43, 33] := by simpa using Array.mem_of_getElem? ht
        have hall : ([29, 32, 43, 33].all fun u => !Tryd.prog.wantsStandIn u) = true := by kernel_rfl
        exact (show Tryd.prog.wantsStandIn t = false by simpa using List.all_eq_true.1 hall t hm)⟩)
    (by kernel_rfl)
#print axioms routeGoes_card
end Go.Proofs.YtpcojaoeahdgcaaDoor
