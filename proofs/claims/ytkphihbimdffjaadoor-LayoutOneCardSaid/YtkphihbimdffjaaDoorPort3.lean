/-
  Package port: Way, by the iterator.
-/
import Derived.Test.YtkphihbimdffjaaDoorPort2
namespace Go.Proofs.YtkphihbimdffjaaDoor
open Go.RowKit Go.Shelf
attribute [local go_sem] Oper.semAt_some

theorem from_stops (Bk Bi n₀ : Nat) (k i : Int) (h0 : 0 ≤ k) (h1 : k ≤ 255) (A : Nat → Prop) (E : TypeId → Prop) (w : World) (hn : n₀ = w.heap.size) (hA : ∀ b, A b → b < n₀) (hk : Bk < n₀ ∧ ¬ A Bk) (hi : Bi < n₀ ∧ ¬ A Bi)
    (hE1 : ¬ E 100) (hE2 : ¬ E 97) (ck : w.cell? ⟨Bk, 0, none⟩ = some (.int .u8 k)) (ci : w.cell? ⟨Bi, 0, none⟩ = some (.int .i64 i)) (K : Kinds w) :
    SeqStopsK Fence.wide 4 Tryd.prog 73 #[.pointer (some ⟨Bk, 0, none⟩), .pointer (some ⟨Bi, 0, none⟩)] (fun x : Int × Int => #[.int .i64 x.1, .int .i64 x.2]) (KeepsE A E n₀) (fun ys => ys = pairs k i) (fun pre => pre <+: pairs k i) 4 w := by
  subst hn
  intro l J Jx W hW hJ _ hY hJ0
  exact from1_in l Bk Bi w.heap.size k i h0 h1 A E hA hk hi hE1 hE2 J Jx W hW.size hJ hY ((hW.cell (p := ⟨Bk, 0, none⟩) hk.1).trans ck) ((hW.cell (p := ⟨Bi, 0, none⟩) hi.1).trans ci) (K.below hW) hJ0

/-- Which way goes. -/
def wayF (k i o : Int) : Option (Int × Int) := (pairs k i).find? (fun x => x.1 == o)
def wayN (k i o : Int) : Int := (wayF k i o).elim 0 (·.2)
def wayB (k i o : Int) : Bool := (wayF k i o).isSome
theorem way_none {k i o : Int} (h : ∀ x, x ∈ pairs k i → ¬ x.1 = o) : wayN k i o = 0 ∧ wayB k i o = false := by
  have e : wayF k i o = none := by rw [wayF, List.find?_eq_none]; intro x hx; simpa using h x hx
  simp [wayN, wayB, e]
theorem way_some {k i o : Int} {p : List (Int × Int)} {x : Int × Int} (hp : p ++ [x] <+: pairs k i) (h : ∀ y, y ∈ p → ¬ y.1 = o) (hx : x.1 = o) : wayN k i o = x.2 ∧ wayB k i o = true := by
  obtain ⟨r, hr⟩ := hp
  have e : wayF k i o = some x := by
    rw [wayF, ← hr, List.append_assoc, List.find?_append, List.find?_eq_none.2 (by intro y hy; simpa using h y hy)]
    simp [hx]
  simp [wayN, wayB, e]

/-- What Way's cells hold: while none is found; when one is. -/
def WayI (n : Nat) (o : Int) (pre : List (Int × Int)) (W : World) : Prop :=
  (∀ x, x ∈ pre → ¬ x.1 = o) ∧ W.cell? ⟨n, 0, none⟩ = some (.int .i64 o) ∧ W.cell? ⟨n + 1, 0, none⟩ = some (.int .i64 0) ∧ W.cell? ⟨n + 1 + 1, 0, none⟩ = some (.bool false) ∧ W.frozen? ⟨n + 1, 0, none⟩ = false ∧ W.frozen? ⟨n + 1 + 1, 0, none⟩ = false
def WayX (n : Nat) (o : Int) (c : Code) (pre : List (Int × Int)) (W : World) : Prop :=
  c = .goto 0 ∧ ∃ p x, pre = p ++ [x] ∧ (∀ y, y ∈ p → ¬ y.1 = o) ∧ x.1 = o ∧ W.cell? ⟨n + 1, 0, none⟩ = some (.int .i64 x.2) ∧ W.cell? ⟨n + 1 + 1, 0, none⟩ = some (.bool true) ∧ W.frozen? ⟨n + 1, 0, none⟩ = false ∧ W.frozen? ⟨n + 1 + 1, 0, none⟩ = false
theorem WayI.same {n : Nat} {o : Int} {pre : List (Int × Int)} {W W' : World} (h : WayI n o pre W) (k : SameCells W W') : WayI n o pre W' :=
  ⟨h.1, k.cell h.2.1, k.cell h.2.2.1, k.cell h.2.2.2.1, (k.frozen h.2.2.1).trans h.2.2.2.2.1, (k.frozen h.2.2.2.1).trans h.2.2.2.2.2⟩
theorem WayX.same {n : Nat} {o : Int} {c : Code} {pre : List (Int × Int)} {W W' : World} (h : WayX n o c pre W) (k : SameCells W W') : WayX n o c pre W' := by
  obtain ⟨hc, p, x, h1, h2, h3, h4, h5, h6, h7⟩ := h
  exact ⟨hc, p, x, h1, h2, h3, k.cell h4, k.cell h5, (k.frozen h4).trans h6, (k.frozen h5).trans h7⟩

set_option maxRecDepth 100000 in
set_option maxHeartbeats 2000000 in
theorem way_any (k i o : Int) (h0 : 0 ≤ k) (h1 : k ≤ 255) (w : World) (K : Kinds w) :
    Calls Tryd.prog 29 #[.int .u8 k, .int .i64 i, .int .i64 o] w fun e w' => e = .returned (.tuple #[.int .i64 (wayN k i o), .bool (wayB k i o)]) ∧ Below w.heap.size w w' := by
  refine calls_marked w.heap.size Tryd.func29 rfl ?_
  simp only [Tryd.ntmps29, List.size_toArray, List.length_cons, List.length_nil, Nat.reduceAdd, Nat.reduceSub, Array.replicate_succ, Array.replicate_zero, List.push_toArray, List.append_toArray, List.nil_append, List.cons_append]
  have KH := Lib.hid K
  clear K
  go_wp2_with fail
  refine wp_scope_fwd 0 rfl ?_
  go_wp2_with fail
  refine (from_any _ _ _).mono ?_
  rintro e w1 ⟨rfl, rfl⟩
  go_wp2_with fail
  have HB : Below w.heap.size w (((((w.alloc (.cells #[.int .i64 o] 3)).alloc (.cells #[.int .i64 0] 3)).alloc (.cells #[.bool false] 4)).alloc (.cells #[.int .u8 k] 5)).alloc (.cells #[.int .i64 i] 3)) :=
    bchain (bchain (bchain (bchain bself bself) bself) bself) bself
  refine wp_range_e (gf := 73) (lb := #[.pointer (some ⟨w.heap.size + 1 + 1 + 1, 0, none⟩), .pointer (some ⟨w.heap.size + 1 + 1 + 1 + 1, 0, none⟩)]) rfl (enters_of Tryd.func73 (by kernel_rfl) rfl)
    (fun b => b = w.heap.size + 1 ∨ b = w.heap.size + 1 + 1) (fun _ => False) (by rintro b (rfl | rfl) <;> simp <;> try omega)
    (from_stops (w.heap.size + 1 + 1 + 1) (w.heap.size + 1 + 1 + 1 + 1) _ k i h0 h1 _ _ _ rfl (by rintro b (rfl | rfl) <;> simp <;> try omega) ⟨by simp; try omega, by rintro (h | h) <;> omega⟩ ⟨by simp; try omega, by rintro (h | h) <;> omega⟩ (fun h => h) (fun h => h) (by simp [go_sem]) (by simp [go_sem]) (KH.out.below HB))
    (fun _ => rfl) (WayI w.heap.size o) (WayX w.heap.size o) (fun _ _ _ h k _ => h.same k) (fun _ _ _ _ h k _ => h.same k) ⟨fun _ h => (by cases h), by simp [go_sem], by simp [go_sem], by simp [go_sem], by simp [go_sem], by simp [go_sem]⟩
    (fun x => { tmps := #[.int .u8 k, .int .i64 i, .int .i64 o, undef, undef, .pointer (some ⟨w.heap.size, 0, none⟩), .pointer (some ⟨w.heap.size + 1, 0, none⟩), .pointer (some ⟨w.heap.size + 1 + 1, 0, none⟩), .int .i64 x.1, .int .i64 x.2, .int .u8 k, .int .i64 i, .func (.func 73) #[] #[.pointer (some ⟨w.heap.size + 1 + 1 + 1, 0, none⟩), .pointer (some ⟨w.heap.size + 1 + 1 + 1 + 1, 0, none⟩)], .int .i64 x.1, .int .i64 x.2, undef, undef, undef, undef, undef, undef], defers := [] })
    ?assign ?body ?done ?stop
  case assign =>
    intro l x W K hK
    gi_wp2
    exact hK
  case body =>
    rintro l pre x W hw ⟨hp, c0, c1, c2, f1, f2⟩ _
    by_cases hx : x.1 = o
    · have hd : (x.1 == o) = true := by simpa using hx
      have HX := Lib.hid hx
      have HP := Lib.hid hp
      clear hx hp
      gi_wp2
      refine wpIn_goto ?_
      exact ⟨((WritesE.refl _ _ _ W).setCell (p := ⟨w.heap.size + 1, 0, none⟩) (.inl rfl) _).setCell (p := ⟨w.heap.size + 1 + 1, 0, none⟩) (.inr rfl) _,
        rfl, pre, x, rfl, HP.out, HX.out, by simp [go_sem, c1], by simp [go_sem, c2], by simp [World.frozen?_setCell, f1], by simp [World.frozen?_setCell, f2]⟩
    · have hd : (x.1 == o) = false := by simpa using hx
      have HX := Lib.hid hx
      have HP := Lib.hid hp
      clear hx hp
      gi_wp2
      refine ⟨WritesE.refl _ _ _ W, ?_, c0, c1, c2, f1, f2⟩
      intro y hy
      rcases List.mem_append.1 hy with hy | hy
      · exact HP.out y hy
      · rw [List.mem_singleton.1 hy]; exact HX.out
  case done =>
    rintro D ys W hD rfl hw ⟨hp, c0, c1, c2, f1, f2⟩ hK
    have hB := hw.below HB (by simp; omega) (by simp; omega) (by rintro b (rfl | rfl) <;> omega)
    have HN := Lib.hid (way_none hp)
    clear hp
    simp at hD
    dsimp only
    go_wp2
    refine wp_label ?_
    go_wp2
    go_region
    go_wp2
    rw [Exit.fwd_ret]
    refine ⟨⟨[D], ⟨rfl, by simp, ?held⟩⟩, fun w' hb hk => ⟨_, ?res, rfl, ?bel⟩⟩
    case held =>
      rintro D' h
      simp only [List.mem_cons, List.not_mem_nil, or_false] at h
      subst h
      exact ⟨by omega, (Below.heap_setCell _ _ _ _ (by dsimp only; omega)).trans ((Below.heap_setCell _ _ _ _ (by dsimp only; omega)).trans hK)⟩
    case res =>
      rw [HN.out.1, HN.out.2]
      have e1 := cells_kept hk (b := w.heap.size + 1) (o := 0) (v := .int .i64 0) (by simp [go_sem, c1])
      have e2 := cells_kept hk (b := w.heap.size + 1 + 1) (o := 0) (v := .bool false) (by simp [go_sem, c2])
      simp [results, Tryd.results29, go_sem, e1, e2]
    case bel =>
      exact (((hB.setCell (p := ⟨w.heap.size + 1, 0, none⟩) (by dsimp only; omega) _).setCell (p := ⟨w.heap.size + 1 + 1, 0, none⟩) (by dsimp only; omega) _).drew).trans hb
  case stop =>
    rintro D c pre W hD hS hw ⟨rfl, p, x, rfl, h1, h2, h3, h4, h5, h6⟩ hK
    have hB := hw.below HB (by simp; omega) (by simp; omega) (by rintro b (rfl | rfl) <;> omega)
    have HN := Lib.hid (way_some hS h1 h2)
    clear h1 h2 hS
    simp at hD
    refine wp_goto ?_
    refine ⟨rfl, ?_⟩
    dsimp only
    go_wp2
    go_region
    go_wp2
    rw [Exit.noGoto_ret]
    refine ⟨⟨[D], ⟨rfl, by simp, ?held⟩⟩, fun w' hb hk => ⟨_, ?res, rfl, ?bel⟩⟩
    case held =>
      rintro D' h
      simp only [List.mem_cons, List.not_mem_nil, or_false] at h
      subst h
      exact ⟨by omega, (Below.heap_setCell _ _ _ _ (by dsimp only; omega)).trans ((Below.heap_setCell _ _ _ _ (by dsimp only; omega)).trans hK)⟩
    case res =>
      rw [HN.out.1, HN.out.2]
      have e1 := cells_kept hk (b := w.heap.size + 1) (o := 0) (v := .int .i64 x.2) (by simp [go_sem, h3])
      have e2 := cells_kept hk (b := w.heap.size + 1 + 1) (o := 0) (v := .bool true) (by simp [go_sem, h4])
      simp [results, Tryd.results29, go_sem, e1, e2]
    case bel =>
      exact (((hB.setCell (p := ⟨w.heap.size + 1, 0, none⟩) (by dsimp only; omega) _).setCell (p := ⟨w.heap.size + 1 + 1, 0, none⟩) (by dsimp only; omega) _).drew).trans hb
end Go.Proofs.YtkphihbimdffjaaDoor
