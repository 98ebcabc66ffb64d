/-
  Package port: Outs, Pos.
-/
import Derived.Test.YtaajbhdmnbabhaaDoorPort3
namespace Go.Proofs.YtaajbhdmnbabhaaDoor
open Go.RowKit Go.Shelf
attribute [local go_sem] Oper.semAt_some row_field0 row_field1 row_field2 row_field3

theorem info_int : (Tryd.prog.info? 3).map (fun i => (i.zero, i.size, i.bytes)) = some (some (.int .i64 0), 1, 8) := by kernel_rfl

/-- The slice value sv holds the numbers zs; it is nil, or lies in a block from B on. -/
def OwnInts (B : Nat) (W : World) (sv : Value) (zs : List Int) : Prop :=
  (sv = .slice none 0 0 ∧ zs = []) ∨ ∃ g cap, sv = .slice (some ⟨g, 0, none⟩) zs.length cap ∧ B ≤ g ∧ g < W.heap.size ∧ zs.length ≤ cap ∧ cap ≤ maxLen ∧ ∀ (j : Nat) (x : Int), zs[j]? = some x → W.cell? ⟨g, j, none⟩ = some (.int .i64 x)
theorem OwnInts.of_row {B : Nat} {W : World} {sv : Value} {zs : List Int} (h : W.ownsRow B 3 1 sv zs.length (zs.map (Value.int .i64))) : OwnInts B W sv zs := by
  have hc := fun g hg => h.cells (g := g) hg
  rcases h.2 with ⟨e, hz⟩ | ⟨g, cap, cur, e, hb, hg, h1, h2, _, _⟩
  · exact .inl ⟨e, List.eq_nil_of_length_eq_zero hz⟩
  · refine .inr ⟨g, cap, e, hb, (Array.getElem?_eq_some_iff.1 hg).1, h1, h2, fun j x hx => ?_⟩
    have := hc g (by rw [e]; rfl) j (.int .i64 x) (by rw [List.getElem?_map, hx]; rfl)
    have ea : (⟨g, 0, none⟩ : Addr).add j = ⟨g, j, none⟩ := by unfold Addr.add; split <;> simp_all
    rwa [ea] at this
theorem OwnInts.below {B : Nat} {W W' : World} {sv : Value} {zs : List Int} (h : OwnInts B W sv zs) (hb : Below W.heap.size W W') : OwnInts B W' sv zs := by
  rcases h with h | ⟨g, cap, e, h1, h2, h3, h4, hc⟩
  · exact .inl h
  · exact .inr ⟨g, cap, e, h1, Nat.lt_of_lt_of_le h2 hb.size, h3, h4, fun j x hx => (hb.cell (p := ⟨g, j, none⟩) h2).trans (hc j x hx)⟩
theorem ownsRow_same {B e size n : Nat} {W W' : World} {sv : Value} {xs : List Value} (h : W.ownsRow B e size sv n xs) (k : SameCells W W') : W'.ownsRow B e size sv n xs := by
  refine ⟨h.1, ?_⟩
  rcases h.2 with h | ⟨g, cap, cur, e, hb, hg, rest⟩
  · exact .inl h
  · exact .inr ⟨g, cap, cur, e, hb, k g _ hg rfl, rest⟩
theorem ownsRow_row {B e size n : Nat} {W : World} {sv : Value} {xs : List Value} {E : TypeId → Prop} (h : W.ownsRow B e size sv n xs) (he : E e) : ∀ g, sv.ownBlock = some g → B ≤ g ∧ ∃ o, W.heap[g]? = some o ∧ ofE E o := by
  intro g hg
  rcases h.2 with ⟨rfl, _⟩ | ⟨g', cap, cur, rfl, hb, hgg, _⟩
  · cases hg
  · cases hg
    exact ⟨hb, _, hgg, _, _, _, rfl, he⟩

theorem ownsRow_slice {B e size n : Nat} {W : World} {sv : Value} {xs : List Value} (h : W.ownsRow B e size sv n xs) : ∃ A c, sv = .slice A n c := by
  rcases h.2 with ⟨rfl, rfl⟩ | ⟨g', cap, cur, rfl, _⟩
  · exact ⟨_, _, rfl⟩
  · exact ⟨_, _, rfl⟩

def OutsI (n B : Nat) (pre : List (Int × Int)) (W : World) : Prop :=
  ∃ sv, W.cell? ⟨n, 0, none⟩ = some sv ∧ W.frozen? ⟨n, 0, none⟩ = false ∧ W.ownsRow B 3 1 sv pre.length (pre.map fun x => Value.int .i64 x.1)
theorem OutsI.same {n B : Nat} {pre : List (Int × Int)} {W W' : World} (h : OutsI n B pre W) (k : SameCells W W') : OutsI n B pre W' := by
  obtain ⟨sv, h1, h2, h3⟩ := h
  exact ⟨sv, k.cell h1, (k.frozen h1).trans h2, ownsRow_same h3 k⟩

/-- Where ways go from a port. -/
def outs (k i : Int) : List Int := (pairs k i).map (·.1)
theorem pairs_length (k i : Int) : (pairs k i).length ≤ 4 := by
  have := prs_length i (aOf k) (bOf k) (kMany k).toNat
  have := kMany_le k
  unfold pairs
  omega

set_option maxRecDepth 100000 in
set_option maxHeartbeats 2000000 in
theorem outs_any (k i : Int) (h0 : 0 ≤ k) (h1 : k ≤ 255) (w : World) (K : Kinds w) :
    Calls Tryd.prog 11 #[.int .u8 k, .int .i64 i] w fun e w' => (∃ sv, e = .returned sv ∧ OwnInts w.heap.size w' sv (outs k i)) ∧ Below w.heap.size w w' := by
  refine calls_marked w.heap.size Tryd.func11 rfl ?_
  simp only [Tryd.ntmps11, List.size_toArray, List.length_cons, List.length_nil, Nat.reduceAdd, Nat.reduceSub, Array.replicate_succ, Array.replicate_zero, List.push_toArray, List.append_toArray, List.nil_append, List.cons_append]
  have KH := Lib.hid K
  clear K
  go_wp2_with fail
  refine (from_any _ _ _).mono ?_
  rintro e w1 ⟨rfl, rfl⟩
  go_wp2_with fail
  have HB : Below w.heap.size w (((w.alloc (.cells #[.slice none 0 0] 27)).alloc (.cells #[.int .u8 k] 5)).alloc (.cells #[.int .i64 i] 3)) :=
    bchain (bchain bself bself) bself
  refine wp_range_e (gf := 19) (lb := #[.pointer (some ⟨w.heap.size + 1, 0, none⟩), .pointer (some ⟨w.heap.size + 1 + 1, 0, none⟩)]) rfl (enters_of Tryd.func19 (by kernel_rfl) rfl)
    (fun b => b = w.heap.size) (fun e => e = 3) (by rintro b rfl; simp; try omega)
    (from_stops (w.heap.size + 1) (w.heap.size + 1 + 1) _ k i h0 h1 _ _ _ rfl (by rintro b rfl; simp; try omega) ⟨by simp; try omega, by intro h; omega⟩ ⟨by simp; try omega, by intro h; omega⟩ (by decide) (by decide) (by simp [go_sem]) (by simp [go_sem]) (KH.out.below HB))
    (fun _ => rfl) (OutsI w.heap.size (w.heap.size + 1 + 1 + 1)) (fun _ _ _ => False) (fun _ _ _ h k _ => h.same k) (fun _ _ _ _ h _ _ => h) ⟨_, by simp [go_sem], by simp [go_sem], World.ownsRow_nil _ _ _ _⟩
    (fun x => { tmps := #[.int .u8 k, .int .i64 i, undef, undef, .pointer (some ⟨w.heap.size, 0, none⟩), .int .i64 x.1, .int .u8 k, .int .i64 i, .func (.func 19) #[] #[.pointer (some ⟨w.heap.size + 1, 0, none⟩), .pointer (some ⟨w.heap.size + 1 + 1, 0, none⟩)], .int .i64 x.1, .int .i64 x.2, undef, undef, undef, undef, undef], defers := [] })
    ?assign ?body ?done ?stop
  case assign =>
    intro l x W K hK
    gi_wp2
    exact hK
  case stop =>
    rintro D c pre W _ _ _ h _
    exact h.elim
  case body =>
    rintro l pre x W hw ⟨sv, c0, f0, hown⟩ hlen
    obtain ⟨i0, hi, hz0, hz1, hz2⟩ := info_parts info_int
    have hsz : w.heap.size + 1 + 1 + 1 ≤ W.heap.size := by have := hw.size; simpa using this
    have lw : w.heap.size < W.heap.size := by omega
    have HO := Lib.hid hown
    have HW := Lib.hid hw
    clear hown hw
    gi_wp2_with (gi_at_builtin; refine wpListIn_append_own _ rfl _ _ 27 rfl (w.heap.size + 1 + 1 + 1) 3 i0 (.int .i64 0) 1 8 Tryd.underlying27 hi hz0 hz1 hz2 rfl (by decide) _ _ _ rfl (HO.out.alloc _) ⟨W.heap.size, 0, none⟩ 1 1 [.int .i64 x.1] rfl rfl ?c1 ?c2 ?c3 ?c4 ?c5 ?_)
    case c1 =>
      intro j u hj
      match j, hj with
      | 0, hj => simp at hj; subst hj; simp [Addr.add]
    case c2 => intro u hu; simp at hu; subst hu; rfl
    case c3 => unfold maxLen; omega
    case c4 => omega
    case c5 => simp; omega
    intro v' w1 hown' hgrow _
    have hne : some w.heap.size ≠ sv.ownBlock := fun e => by have := (ownsRow_row (E := fun e => e = 3) HO.out rfl w.heap.size e.symm).1; omega
    have b1 : w1.heap[w.heap.size]? = W.heap[w.heap.size]? := (hgrow.block w.heap.size (by simp; omega) hne).trans (bself.block _ lw)
    have c1 := (World.cell?_of_block (w := W) (a := ⟨w.heap.size, 0, none⟩) b1).trans c0
    have f1 := (World.frozen?_of_block (w := W) (a := ⟨w.heap.size, 0, none⟩) b1).trans f0
    obtain ⟨A', cap', hv⟩ := ownsRow_slice hown'
    subst hv
    have HG := Lib.hid (⟨hown', hgrow⟩ : _ ∧ _)
    clear hown' hgrow hne b1
    gi_wp2
    refine ⟨WritesE.setCell (A := fun b => b = w.heap.size) (E := fun e => e = 3) (((WritesE.refl _ _ _ W).alloc _).grown HG.out.2 (fun g hg => ?_)) (p := ⟨w.heap.size, 0, none⟩) rfl _, .slice A' (pre.length + 1) cap', by simp [go_sem, c1], by simp [World.frozen?_setCell, f1], ?_⟩
    · obtain ⟨h1, o, h2, h3⟩ := ownsRow_row (E := fun e => e = 3) HO.out rfl g hg
      exact ⟨by simp; omega, o, (bself.block _ (Array.getElem?_eq_some_iff.1 h2).1).trans h2, h3⟩
    · have hk : w1.grownBy (w1.setCell ⟨w.heap.size, 0, none⟩ (.slice A' (pre.length + 1) cap')) (some w.heap.size) := ⟨rfl, rfl, rfl, by simp [World.setCell], fun k _ hne => Below.heap_setCell _ _ _ _ (fun e => hne (by rw [e]))⟩
      have := HG.out.1.kept hk (by
        right
        intro e
        have := (ownsRow_row (E := fun e => e = 3) HG.out.1 rfl w.heap.size e).1
        omega)
      simpa using this
  case done =>
    rintro D ys W hD rfl hw ⟨sv, c0, f0, hown⟩ hK
    have hB := hw.below HB (by simp; omega) (by simp; omega) (by rintro b rfl; omega)
    obtain ⟨A', cap', hv⟩ := ownsRow_slice hown
    subst hv
    have HO := Lib.hid hown
    clear hown
    simp at hD
    dsimp only
    go_wp2
    refine ⟨⟨[D], ⟨rfl, by simp, ?held⟩⟩, fun w' hb hk => ⟨.slice A' (pairs k i).length cap', ?res, ⟨_, rfl, ?own⟩, ?bel⟩⟩
    case held =>
      rintro D' h
      simp only [List.mem_cons, List.not_mem_nil, or_false] at h
      subst h
      exact ⟨by omega, (Below.heap_setCell _ _ _ _ (by dsimp only; omega)).trans hK⟩
    case res =>
      have e1 := cells_kept hk (b := w.heap.size) (o := 0) (v := .slice A' (pairs k i).length cap') (by simp [go_sem, c0])
      simp [results, Tryd.results11, go_sem, e1]
    case own =>
      have hk0 : W.grownBy (W.setCell ⟨w.heap.size, 0, none⟩ (.slice A' (pairs k i).length cap')) (some w.heap.size) := ⟨rfl, rfl, rfl, by simp [World.setCell], fun k _ hne => Below.heap_setCell _ _ _ _ (fun e => hne (by rw [e]))⟩
      have h1 := HO.out.kept hk0 (by
        right
        intro e
        have := (ownsRow_row (E := fun e => e = 3) HO.out rfl w.heap.size e).1
        omega)
      have h2 := ownsRow_same h1 hk
      have h3 : w'.ownsRow (w.heap.size + 1 + 1 + 1) 3 1 (.slice A' (pairs k i).length cap') (outs k i).length ((outs k i).map (Value.int .i64)) := by
        simpa [outs, List.map_map, Function.comp_def] using h2
      rcases OwnInts.of_row h3 with h | ⟨g, cap, e, q1, q2⟩
      · exact .inl h
      · exact .inr ⟨g, cap, e, by omega, q2⟩
    case bel =>
      exact (hB.setCell (p := ⟨w.heap.size, 0, none⟩) (Nat.le_refl _) _).trans hb

/-- A way's position. -/
def posN (k i o : Int) : Int := if wayB k i o = true ∧ kPoint k = false then -1 else wayN k i o
set_option maxHeartbeats 1000000 in
theorem pos_any (k i o : Int) (h0 : 0 ≤ k) (h1 : k ≤ 255) (w : World) (K : Kinds w) :
    Calls Tryd.prog 13 #[.int .u8 k, .int .i64 i, .int .i64 o] w fun e w' => e = .returned (.tuple #[.int .i64 (posN k i o), .bool (wayB k i o)]) ∧ Below w.heap.size w w' := by
  obtain ⟨b, hb⟩ : ∃ b, b = wayB k i o := ⟨_, rfl⟩
  obtain ⟨n, hn⟩ : ∃ n, n = posN k i o := ⟨_, rfl⟩
  obtain ⟨m, hm⟩ : ∃ m, m = wayN k i o := ⟨_, rfl⟩
  obtain ⟨p, hp⟩ : ∃ p, p = kPoint k := ⟨_, rfl⟩
  have e : n = if b = true ∧ p = false then -1 else m := by rw [hn, hb, hm, hp]; rfl
  have hw := way_any k i o h0 h1 w K
  rw [← hb, ← hm] at hw
  rw [← hb, ← hn]
  clear hn hm hb
  have HW := Lib.hid hw
  have KH := Lib.hid K
  clear hw K
  cases b with
  | false =>
    have e' : n = m := by rw [e, if_neg (by simp)]
    subst e'
    clear e
    go_enter Tryd.func13, Tryd.ntmps13
    go_wp2_with fail
    (with_reducible refine HW.out.mono ?_)
    rintro e w1 ⟨rfl, hb1⟩
    go_wp2
    go_ret2
    exact ⟨rfl, hb1⟩
  | true =>
    have hro : rowV k = .agg #[.int .i64 (kPorts k), .int .i64 0, .int .i64 (kB0 k), .int .i64 (kA1 k), .int .i64 (kB1 k), .int .i64 (kMany k), .bool p] := by rw [hp]; rfl
    have ho := fun w1 (K1 : Kinds w1) => of_any k h0 h1 w1 K1
    rw [hro] at ho
    have HO := Lib.hid ho
    clear ho hro hp
    cases p with
    | false =>
      have e' : n = -1 := by rw [e, if_pos (by simp)]
      subst e'
      clear e
      go_enter Tryd.func13, Tryd.ntmps13
      go_wp2_with fail
      (with_reducible refine HW.out.mono ?_)
      rintro e w1 ⟨rfl, hb1⟩
      go_wp2_with fail
      (with_reducible refine (HO.out w1 (KH.out.below hb1)).mono ?_)
      rintro e w2 ⟨rfl, hb2⟩
      go_wp2
      go_ret2
      exact ⟨rfl, bchain hb1 hb2⟩
    | true =>
      have e' : n = m := by rw [e, if_neg (by simp)]
      subst e'
      clear e
      go_enter Tryd.func13, Tryd.ntmps13
      go_wp2_with fail
      (with_reducible refine HW.out.mono ?_)
      rintro e w1 ⟨rfl, hb1⟩
      go_wp2_with fail
      (with_reducible refine (HO.out w1 (KH.out.below hb1)).mono ?_)
      rintro e w2 ⟨rfl, hb2⟩
      go_wp2
      go_ret2
      exact ⟨rfl, bchain hb1 hb2⟩
end Go.Proofs.YtaajbhdmnbabhaaDoor
