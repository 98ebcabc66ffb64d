/-
  plan.Take's deferred closure: what a panic of the reader's is turned to.
-/
import Derived.Test.YtpnnbihofoomeaaDoorM6
import Derived.Recover
import Derived.Defers
import Derived.OwnWalkIn
import Derived.Deep.LoopGhost

namespace Go.Proofs.YtpnnbihofoomeaaDoor
open Go.RowKit Go.Shelf

/-- A layout of nothing, laid anew, and the error's number. -/
def zeroed (sb eb : Nat) (w : World) : World := (((((((((((w.setCell ⟨sb, 0, none⟩ (.slice none 0 0)).setCell ⟨sb, 1, none⟩ (.slice none 0 0)).setCell ⟨sb, 2, none⟩ (.slice none 0 0)).setCell ⟨sb, 3, none⟩ (.slice none 0 0)).setCell ⟨sb, 4, none⟩ (.int .i64 0)).setCell ⟨sb, 5, none⟩ (.int .i64 0)).setCell ⟨sb, 6, none⟩ (.int .i64 0)).setCell ⟨sb, 7, none⟩ (.int .i64 0)).setCell ⟨sb, 8, none⟩ (.int .i64 0)).setCell ⟨sb, 9, none⟩ (.int .i64 0)).setCell ⟨sb, 10, none⟩ (.int .i64 0)).setCell ⟨eb, 0, none⟩ (.int .i64 40)
set_option maxRecDepth 100000 in
set_option maxHeartbeats 8000000 in
theorem take_catches (sb eb : Nat) (w : World) (L : Lay) (p : Where) (x : Int) (u : TypeId) (pv : Value) (older : List PanicEntry) (hb : w.heap[sb]? = some (.cells (L.cells p).toArray 29 (0, 0))) (he : w.heap[eb]? = some (.cells #[.int .i64 x] 33 (0, 0))) (hne : sb ≠ eb) :
    CallsD Tryd.prog 31 #[.pointer (some ⟨sb, 0, none⟩), .pointer (some ⟨eb, 0, none⟩)] (.panicking ({ v := .iface u pv, recovered := false } :: older)) w fun e u' w' =>
      e = .returned (.tuple #[]) ∧ u' = .panicking ({ v := .iface u pv, recovered := true } :: older) ∧ w' = zeroed sb eb w := by
  obtain ⟨y0, y1, y2, y3, y4, y5, y6, y7, y8, y9, y10⟩ := (boxL_heap hb).cells
  have yl := (Array.getElem?_eq_some_iff.1 hb).1
  have yf : ∀ o, w.frozen? ⟨sb, o, none⟩ = false := fun o => frozen_of_row _ _ _ _ _ hb
  have z0 : w.cell? ⟨eb, 0, none⟩ = some (.int .i64 x) := by simp [World.cell?, he]
  have zl := (Array.getElem?_eq_some_iff.1 he).1
  have zf : w.frozen? ⟨eb, 0, none⟩ = false := frozen_of_row _ _ _ _ _ he
  have hne' : eb ≠ sb := fun h => hne h.symm
  clear hb he
  refine callsD_of_wpS Tryd.func31 rfl fun c₀ cs hu => ?_
  apply wpS_seq
  apply wpS_region
  simp [wpOpsS, go_sem, recoverD, hu, Tryd.ntmps31, Exit.thenS]
  apply wpS_seq
  apply wpS_region
  simp [wpOpsS, go_sem, Exit.thenS]
  refine wpS_cond (t := true) (by simp [Act.eval, Array.replicate]) ?_
  simp only [if_true]
  refine wpS_of_wp ?_
  simp only [Array.replicate_succ, Array.replicate_zero, List.push_toArray, List.append_toArray, List.nil_append, List.cons_append, List.setIfInBounds_toArray, List.set_cons_zero, List.set_cons_succ]
  go_wp2
  unfold zeroed
  simp [bodyPostS, results, Tryd.results31, go_sem]
theorem zeroed_box {sb eb : Nat} {w : World} {L : Lay} {p : Where} (hb : w.heap[sb]? = some (.cells (L.cells p).toArray 29 (0, 0))) (hne : sb ≠ eb) : (zeroed sb eb w).heap[sb]? = some (.cells ((layOf [] [] [] [] []).cells ⟨none, none, none, none, 0, 0, 0, 0⟩).toArray 29 (0, 0)) := by
  unfold zeroed
  rw [Below.heap_setCell _ _ _ _ (by exact hne)]
  unfold Lay.cells at hb
  replace hb := heap_setCell_same _ sb 0 _ _ (.slice none 0 0) hb
  simp only [List.setIfInBounds_toArray, List.set_cons_zero] at hb
  replace hb := heap_setCell_same _ sb 1 _ _ (.slice none 0 0) hb
  simp only [List.setIfInBounds_toArray, List.set_cons_zero, List.set_cons_succ] at hb
  replace hb := heap_setCell_same _ sb 2 _ _ (.slice none 0 0) hb
  simp only [List.setIfInBounds_toArray, List.set_cons_zero, List.set_cons_succ] at hb
  replace hb := heap_setCell_same _ sb 3 _ _ (.slice none 0 0) hb
  simp only [List.setIfInBounds_toArray, List.set_cons_zero, List.set_cons_succ] at hb
  replace hb := heap_setCell_same _ sb 4 _ _ (.int .i64 0) hb
  simp only [List.setIfInBounds_toArray, List.set_cons_zero, List.set_cons_succ] at hb
  replace hb := heap_setCell_same _ sb 5 _ _ (.int .i64 0) hb
  simp only [List.setIfInBounds_toArray, List.set_cons_zero, List.set_cons_succ] at hb
  replace hb := heap_setCell_same _ sb 6 _ _ (.int .i64 0) hb
  simp only [List.setIfInBounds_toArray, List.set_cons_zero, List.set_cons_succ] at hb
  replace hb := heap_setCell_same _ sb 7 _ _ (.int .i64 0) hb
  simp only [List.setIfInBounds_toArray, List.set_cons_zero, List.set_cons_succ] at hb
  replace hb := heap_setCell_same _ sb 8 _ _ (.int .i64 0) hb
  simp only [List.setIfInBounds_toArray, List.set_cons_zero, List.set_cons_succ] at hb
  replace hb := heap_setCell_same _ sb 9 _ _ (.int .i64 0) hb
  simp only [List.setIfInBounds_toArray, List.set_cons_zero, List.set_cons_succ] at hb
  replace hb := heap_setCell_same _ sb 10 _ _ (.int .i64 0) hb
  simp only [List.setIfInBounds_toArray, List.set_cons_zero, List.set_cons_succ] at hb
  exact hb
set_option maxRecDepth 100000 in
set_option maxHeartbeats 8000000 in
theorem zeroed_err {sb eb : Nat} {w : World} {x : Int} (he : w.heap[eb]? = some (.cells #[.int .i64 x] 33 (0, 0))) (hne : sb ≠ eb) : (zeroed sb eb w).heap[eb]? = some (.cells #[.int .i64 40] 33 (0, 0)) := by
  have hne' : eb ≠ sb := fun h => hne h.symm
  have h0 : ((((((((((((w.setCell ⟨sb, 0, none⟩ (.slice none 0 0)).setCell ⟨sb, 1, none⟩ (.slice none 0 0)).setCell ⟨sb, 2, none⟩ (.slice none 0 0)).setCell ⟨sb, 3, none⟩ (.slice none 0 0)).setCell ⟨sb, 4, none⟩ (.int .i64 0)).setCell ⟨sb, 5, none⟩ (.int .i64 0)).setCell ⟨sb, 6, none⟩ (.int .i64 0)).setCell ⟨sb, 7, none⟩ (.int .i64 0)).setCell ⟨sb, 8, none⟩ (.int .i64 0)).setCell ⟨sb, 9, none⟩ (.int .i64 0)).setCell ⟨sb, 10, none⟩ (.int .i64 0))).heap[eb]? = some (.cells #[.int .i64 x] 33 (0, 0)) := by
    iterate 11 rw [Below.heap_setCell _ _ _ _ (by exact hne')]
    exact he
  unfold zeroed
  have h1 := heap_setCell_same _ eb 0 _ _ (.int .i64 40) h0
  rw [h1]
  rfl
theorem zeroed_only {sb eb : Nat} {w W : World} (h : Below w.heap.size w W) (hs : w.heap.size ≤ sb) (he : w.heap.size ≤ eb) : Below w.heap.size w (zeroed sb eb W) := by
  unfold zeroed
  iterate 11 refine Below.setCell (?_ : Below _ _ (World.setCell _ _ _)) (by dsimp only; omega) _
  exact Below.setCell h (by dsimp only; omega) _
theorem take_idle (sb eb : Nat) (w : World) :
    CallsD Tryd.prog 31 #[.pointer (some ⟨sb, 0, none⟩), .pointer (some ⟨eb, 0, none⟩)] .returning w fun e u' w' => e = .returned (.tuple #[]) ∧ u' = .returning ∧ w' = w := by
  refine callsD_of_wpS Tryd.func31 rfl fun c₀ cs hu => ?_
  apply wpS_seq
  apply wpS_region
  simp [wpOpsS, go_sem, recoverD, hu, Tryd.ntmps31, Exit.thenS]
  apply wpS_seq
  apply wpS_region
  simp [wpOpsS, go_sem, Exit.thenS]
  refine wpS_cond (t := false) (by simp [Act.eval, Array.replicate]) ?_
  simp only [Bool.false_eq_true, if_false]
  refine wpS_of_wp (wp_skip ?_)
  cases c₀
  simp_all [bodyPostS, results, Tryd.results31]
end Go.Proofs.YtpnnbihofoomeaaDoor

/-
  plan.Take: a layout in its variable, the reader laid anew.
-/
namespace Go.Proofs.YtpnnbihofoomeaaDoor
open Go.RowKit Go.Shelf

/-- No layout, and where it lies. -/
def noL : Lay := layOf [] [] [] [] []
def noW : Where := ⟨none, none, none, none, 0, 0, 0, 0⟩
theorem owned_no (B : Nat) (W : World) : Owned B W noW noL [] :=
  ⟨World.ownsRow_nil _ _ _ _, World.ownsRow_nil _ _ _ _, World.ownsRow_nil _ _ _ _, World.ownsRow_nil _ _ _ _, rfl, (fun _ h => by cases h), (fun _ h => by cases h)⟩
/-- What Take tells, plainly: the layout and the error's number. -/
def takeL (bs : List Nat) : Lay × Int := match rdLay (bitB bs) (8 * bs.length) 0 with
  | none => (noL, 40)
  | some (L, _) => if rightL L = true ∧ bytesL L = bs then (L, 0) else (noL, 41)
theorem take_none {bs : List Nat} (h : rdLay (bitB bs) (8 * bs.length) 0 = none) : takeL bs = (noL, 40) := by unfold takeL; rw [h]
theorem take_form {bs : List Nat} {L : Lay} {b : Nat} (h : rdLay (bitB bs) (8 * bs.length) 0 = some (L, b)) (h' : ¬ (rightL L = true ∧ bytesL L = bs)) : takeL bs = (noL, 41) := by unfold takeL; rw [h]; exact if_neg h'
theorem take_some {bs : List Nat} {L : Lay} {b : Nat} (h : rdLay (bitB bs) (8 * bs.length) 0 = some (L, b)) (h' : rightL L = true ∧ bytesL L = bs) : takeL bs = (L, 0) := by unfold takeL; rw [h]; exact if_pos h'
def TakeOf (bs : List Nat) (w : World) (e : Ending) (w' : World) : Prop :=
  (∃ p es, e = .returned (.tuple #[(takeL bs).1.val p, .int .i64 (takeL bs).2]) ∧ Owned w.heap.size w' p (takeL bs).1 es) ∧ Below w.heap.size w w'
/-- A layout's variable, written anew. -/
def set11 (sb : Nat) (W : World) (v0 v1 v2 v3 v4 v5 v6 v7 v8 v9 v10 : Value) : World := (((((((((((W.setCell ⟨sb, 0, none⟩ v0).setCell ⟨sb, 1, none⟩ v1).setCell ⟨sb, 2, none⟩ v2).setCell ⟨sb, 3, none⟩ v3).setCell ⟨sb, 4, none⟩ v4).setCell ⟨sb, 5, none⟩ v5).setCell ⟨sb, 6, none⟩ v6).setCell ⟨sb, 7, none⟩ v7).setCell ⟨sb, 8, none⟩ v8).setCell ⟨sb, 9, none⟩ v9).setCell ⟨sb, 10, none⟩ v10)
theorem set11_box {sb : Nat} {W : World} {c0 c1 c2 c3 c4 c5 c6 c7 c8 c9 c10 v0 v1 v2 v3 v4 v5 v6 v7 v8 v9 v10 : Value} (hb : W.heap[sb]? = some (.cells #[c0, c1, c2, c3, c4, c5, c6, c7, c8, c9, c10] 29 (0, 0))) : (set11 sb W v0 v1 v2 v3 v4 v5 v6 v7 v8 v9 v10).heap[sb]? = some (.cells #[v0, v1, v2, v3, v4, v5, v6, v7, v8, v9, v10] 29 (0, 0)) := by
  unfold set11
  replace hb := heap_setCell_same _ sb 0 _ _ v0 hb
  simp only [List.setIfInBounds_toArray, List.set_cons_zero] at hb
  replace hb := heap_setCell_same _ sb 1 _ _ v1 hb
  simp only [List.setIfInBounds_toArray, List.set_cons_zero, List.set_cons_succ] at hb
  replace hb := heap_setCell_same _ sb 2 _ _ v2 hb
  simp only [List.setIfInBounds_toArray, List.set_cons_zero, List.set_cons_succ] at hb
  replace hb := heap_setCell_same _ sb 3 _ _ v3 hb
  simp only [List.setIfInBounds_toArray, List.set_cons_zero, List.set_cons_succ] at hb
  replace hb := heap_setCell_same _ sb 4 _ _ v4 hb
  simp only [List.setIfInBounds_toArray, List.set_cons_zero, List.set_cons_succ] at hb
  replace hb := heap_setCell_same _ sb 5 _ _ v5 hb
  simp only [List.setIfInBounds_toArray, List.set_cons_zero, List.set_cons_succ] at hb
  replace hb := heap_setCell_same _ sb 6 _ _ v6 hb
  simp only [List.setIfInBounds_toArray, List.set_cons_zero, List.set_cons_succ] at hb
  replace hb := heap_setCell_same _ sb 7 _ _ v7 hb
  simp only [List.setIfInBounds_toArray, List.set_cons_zero, List.set_cons_succ] at hb
  replace hb := heap_setCell_same _ sb 8 _ _ v8 hb
  simp only [List.setIfInBounds_toArray, List.set_cons_zero, List.set_cons_succ] at hb
  replace hb := heap_setCell_same _ sb 9 _ _ v9 hb
  simp only [List.setIfInBounds_toArray, List.set_cons_zero, List.set_cons_succ] at hb
  replace hb := heap_setCell_same _ sb 10 _ _ v10 hb
  simp only [List.setIfInBounds_toArray, List.set_cons_zero, List.set_cons_succ] at hb
  exact hb
theorem set11_other {sb b : Nat} {W : World} {v0 v1 v2 v3 v4 v5 v6 v7 v8 v9 v10 : Value} (h : b ≠ sb) : (set11 sb W v0 v1 v2 v3 v4 v5 v6 v7 v8 v9 v10).heap[b]? = W.heap[b]? := by
  unfold set11
  iterate 11 rw [Below.heap_setCell _ _ _ _ (by exact h)]
theorem set11_below {n sb : Nat} {w W : World} {v0 v1 v2 v3 v4 v5 v6 v7 v8 v9 v10 : Value} (h : Below n w W) (hs : n ≤ sb) : Below n w (set11 sb W v0 v1 v2 v3 v4 v5 v6 v7 v8 v9 v10) := by
  unfold set11
  iterate 10 refine Below.setCell (?_ : Below _ _ (World.setCell _ _ _)) (by exact hs) _
  exact Below.setCell h (by exact hs) _
theorem set11_size {sb : Nat} {W : World} {v0 v1 v2 v3 v4 v5 v6 v7 v8 v9 v10 : Value} : (set11 sb W v0 v1 v2 v3 v4 v5 v6 v7 v8 v9 v10).heap.size = W.heap.size := by
  unfold set11
  simp [World.setCell]
theorem below_only {n rb : Nat} {a b c : World} (h : Below n a b) (k : Only rb b c) (hr : n ≤ rb) (hn : n ≤ b.heap.size) : Below n a c :=
  h.trans ⟨k.os, k.tape, k.output, k.size, fun x hx => k.block x (by omega) (fun e => by cases e; omega)⟩
/-- The reader of a row of one's own. -/
theorem rdAt_new {bs : List Nat} {W : World} {B n c M : Nat} {A : Option Addr} (hn : n = bs.length) (hM : M = 8 * bs.length) (ho : W.ownsRow B 5 1 (.slice A n c) n (bs.flatMap bEnc)) (hl : bs.length ≤ 1000) (h8 : ∀ b ∈ bs, b < 256) :
    RdAt bs M A n c W.heap.size 0 (W.alloc (.cells #[.slice A n c, .int .i64 M, .int .i64 0] 81)) := by
  subst hn hM
  have hA := (sl_get (at_of_row (k := 1) (fun _ => rfl) (by decide) ho)).1
  refine ⟨rfl, hA.below bself, bitsOk_bytes bs hl h8, World.alloc_heap_new _ _, fun b off e => ?_, Nat.zero_le _⟩
  rcases hA with h | ⟨b', off', e', h⟩
  · subst h
    rcases ho.2 with ⟨e1, _⟩ | ⟨g, cap, cur, e1, hb, hg, _⟩
    · cases e1
      cases e
    · cases e1
      cases e
      exact Nat.ne_of_lt (Array.getElem?_eq_some_iff.1 hg).1
  · rw [e'] at e
    cases e
    exact Nat.ne_of_lt h.1
theorem of_rd (A : Option Addr) (n cap M : Nat) (bs : List Nat) (w : World) (hn : n = bs.length) (hM : M = 8 * bs.length) (hA : At w 1 bEnc A bs) (hl : bs.length ≤ 1000) :
    Calls Tryd.prog 32 #[.slice A n cap] w fun e w' => ∃ A' c', e = .returned (.agg #[.slice A' n c', .int .i64 (M : Nat)]) ∧ w'.ownsRow w.heap.size 5 1 (.slice A' n c') n (bs.flatMap bEnc) ∧ Below w.heap.size w w' := by
  refine (bOf_any A n cap bs w hn hA hl).mono ?_
  rintro e w' ⟨v, rfl, ho, hb⟩
  obtain ⟨A', c', rfl⟩ := ownsV ho
  subst hn hM
  exact ⟨A', c', rfl, ho, hb⟩

/-- The door, as the named results are told. -/
theorem door {w V : World} {bs : List Nat} {L : Lay} {p : Where} {es : List (Ext' × Value)} {x : Int} (h : takeL bs = (L, x)) (hb : V.heap[w.heap.size]? = some (.cells (L.cells p).toArray 29 (0, 0))) (he : V.heap[w.heap.size + 1]? = some (.cells #[.int .i64 x] 33 (0, 0)))
    (ho : Owned w.heap.size V p L es) (hw : Below w.heap.size w V) (T : Array Value) (h2 : T[2]? = some (.pointer (some ⟨w.heap.size, 0, none⟩))) (h3 : T[3]? = some (.pointer (some ⟨w.heap.size + 1, 0, none⟩))) : Leaves Tryd.prog Tryd.f11 T (TakeOf bs w) [] .returning V := by
  obtain ⟨y0, y1, y2, y3, y4, y5, y6, y7, y8, y9, y10⟩ := (boxL_heap hb).cells
  have z0 : V.cell? ⟨w.heap.size + 1, 0, none⟩ = some (.int .i64 x) := by simp [World.cell?, he]
  refine ⟨.tuple #[L.val p, .int .i64 x], ?_, ⟨p, es, by rw [h], by rw [h]; exact ho⟩, hw⟩
  simp [results, Tryd.results11, go_sem, h2, h3, y0, y1, y2, y3, y4, y5, y6, y7, y8, y9, y10, z0]
  try rfl
theorem set11_only {sb : Nat} {W : World} {v0 v1 v2 v3 v4 v5 v6 v7 v8 v9 v10 : Value} : Only sb W (set11 sb W v0 v1 v2 v3 v4 v5 v6 v7 v8 v9 v10) := by
  unfold set11
  iterate 10 refine Only.trans ?_ (Only.set _)
  exact Only.set _
theorem door_set {w W : World} {bs : List Nat} {L0 L : Lay} {p0 p : Where} {es : List (Ext' × Value)} {x0 x : Int} (h : takeL bs = (L, x)) (hb : W.heap[w.heap.size]? = some (.cells (L0.cells p0).toArray 29 (0, 0))) (he : W.heap[w.heap.size + 1]? = some (.cells #[.int .i64 x0] 33 (0, 0)))
    (ho : Owned (w.heap.size + 2) W p L es) (hw : Below w.heap.size w W) (T : Array Value) (h2 : T[2]? = some (.pointer (some ⟨w.heap.size, 0, none⟩))) (h3 : T[3]? = some (.pointer (some ⟨w.heap.size + 1, 0, none⟩))) :
    Leaves Tryd.prog Tryd.f11 T (TakeOf bs w) [] .returning ((set11 w.heap.size W (.slice p.a0 L.secs.length p.c0) (.slice p.a1 L.sigs.length p.c1) (.slice p.a2 L.exits.length p.c2) (.slice p.a3 L.flanks.length p.c3) (.int .i64 L.t0) (.int .i64 L.t1) (.int .i64 L.t2) (.int .i64 L.t3) (.int .i64 L.t4) (.int .i64 L.t5) (.int .i64 L.t6)).setCell ⟨w.heap.size + 1, 0, none⟩ (.int .i64 x)) := by
  refine door (p := p) (es := es) h ?_ ?_ ?_ ?_ T h2 h3
  · rw [Below.heap_setCell _ _ _ _ (by show w.heap.size ≠ w.heap.size + 1; omega)]
    exact set11_box hb
  · rw [heap_setCell_same _ _ _ _ _ _ ((set11_other (by omega)).trans he)]
    rfl
  · exact ((ho.only set11_only (by omega)).only (Only.set _) (by omega)).base (by omega)
  · exact Below.setCell (set11_below hw (Nat.le_refl _)) (Nat.le_succ _) _
theorem take_start (w : World) : Below w.heap.size w ((w.alloc (.cells (noL.cells noW).toArray 29)).alloc (.cells #[.int .i64 0] 33)) ∧ ((w.alloc (.cells (noL.cells noW).toArray 29)).alloc (.cells #[.int .i64 0] 33)).heap[w.heap.size]? = some (.cells (noL.cells noW).toArray 29 (0, 0)) ∧ ((w.alloc (.cells (noL.cells noW).toArray 29)).alloc (.cells #[.int .i64 0] 33)).heap[w.heap.size + 1]? = some (.cells #[.int .i64 0] 33 (0, 0)) ∧ ((w.alloc (.cells (noL.cells noW).toArray 29)).alloc (.cells #[.int .i64 0] 33)).heap.size = w.heap.size + 2 := by
  refine ⟨bchain bself bself, ?_, ?_, by simp⟩
  · exact (bself.block _ (by simp)).trans (World.alloc_heap_new _ _)
  · have := World.alloc_heap_new (w.alloc (.cells (noL.cells noW).toArray 29)) (.cells #[.int .i64 0] 33)
    simpa using this
end Go.Proofs.YtpnnbihofoomeaaDoor

/-
  plan.Take.
-/
namespace Go.Proofs.YtpnnbihofoomeaaDoor
open Go.RowKit Go.Shelf

set_option maxRecDepth 100000 in
set_option maxHeartbeats 16000000 in
theorem take_any (A : Option Addr) (n cap : Nat) (bs : List Nat) (w : World) (hn : n = bs.length) (hA : At w 1 bEnc A bs) (hl : bs.length ≤ 1000) (h8 : ∀ b ∈ bs, b < 256) (K : Kinds w) :
    Calls Tryd.prog 11 #[.slice A n cap] w (TakeOf bs w) := by
  have hmf : ∀ (fn : Fn) (first cap : Array Value) (w : World), (Instr.makeFunc fn first cap).run Tryd.prog w = .ok (.func fn first cap) w := fun _ _ _ _ => rfl
  obtain ⟨M, hM⟩ : ∃ M : Nat, M = 8 * bs.length := ⟨_, rfl⟩
  have HOf := Lib.hid (fun W (h : Below w.heap.size w W) => of_rd A n cap M bs W hn hM (hA.below h) hl)
  have HA := Lib.hid (⟨hn, hM, hA, hl, h8, K⟩ : _ ∧ _ ∧ _ ∧ _ ∧ _ ∧ _)
  clear hn hA hl h8 K hM
  obtain ⟨W0, hW0⟩ : ∃ W0, W0 = (w.alloc (.cells (noL.cells noW).toArray 29)).alloc (.cells #[.int .i64 0] 33) := ⟨_, rfl⟩
  go_enter_defers Tryd.func11, Tryd.ntmps11
  go_wp2_with fail
  have G0 := take_start w
  rw [← hW0] at G0
  unfold noL noW layOf Lay.cells at hW0
  simp only [List.getD_nil, List.length_nil] at hW0
  rw [← hW0]
  replace G0 := Lib.hid G0
  clear hW0
  (with_reducible refine (HOf.out _ G0.out.1).mono ?_)
  rintro e W1 ⟨A', c', rfl, ho, b1⟩
  have hrd := rdAt_new (c := c') (M := M) HA.out.1 HA.out.2.1 ho HA.out.2.2.2.1 HA.out.2.2.2.2.1
  obtain ⟨W2, hW2⟩ : ∃ W2, W2 = W1.alloc (.cells #[.slice A' n c', .int .i64 M, .int .i64 0] 81) := ⟨_, rfl⟩
  rw [← hW2] at hrd
  obtain ⟨rb, hrb⟩ : ∃ rb, rb = W1.heap.size := ⟨_, rfl⟩
  have hlt : W0.heap.size ≤ W1.heap.size := b1.size
  have G1 : Below W0.heap.size W0 W2 ∧ W0.heap.size ≤ rb ∧ W2.heap.size = rb + 1 := by
    subst hW2
    exact ⟨bchain b1 bself, by omega, by rw [hrb]; simp⟩
  go_wp2_with fail
  rw [← hW2]
  rw [← hrb] at hrd ⊢
  have H1 := Lib.hid (⟨hrd, G1⟩ : _ ∧ _ ∧ _ ∧ _)
  clear hrd G1 hW2 hrb hlt ho b1
  have hsz := G0.out.2.2.2
  have hw2 : W0.heap.size ≤ W2.heap.size := H1.out.2.1.size
  have hrb := H1.out.2.2.1
  have HB := Lib.hid (fun W (k : Only rb W2 W) => below_only H1.out.2.1 k hrb hw2)
  have HL := Lib.hid (rlayout_any W2 H1.out.1 fun W k => HA.out.2.2.2.2.2.below (G0.out.1.trans ((HB.out W k).mono (by omega))))
  (with_reducible refine HL.out.mono ?_)
  intro e W3 hp
  rcases ee : rdLay (bitB bs) M 0 with _ | ⟨L, b⟩
  · rw [ee] at hp
    obtain ⟨rfl, k1⟩ := hp
    rw [HA.out.2.1] at ee
    have htk := take_none ee
    have hb3 := HB.out _ k1
    have hsb := (hb3.block w.heap.size (by omega)).trans G0.out.2.1
    have heb := (hb3.block (w.heap.size + 1) (by omega)).trans G0.out.2.2.1
    have hne : w.heap.size ≠ w.heap.size + 1 := by omega
    have h1 := zeroed_box hsb hne
    have h2 := zeroed_err heb hne
    have h3 := zeroed_only (G0.out.1.trans (hb3.mono (by omega))) (Nat.le_refl _) (Nat.le_succ _)
    have HE := Lib.hid (⟨htk, hsb, heb, h1, h2, h3⟩ : _ ∧ _ ∧ _ ∧ _ ∧ _ ∧ _)
    clear htk hsb heb h1 h2 h3 ee k1 hb3
    go_wp2_with fail
    refine leaves_cons (f := 31) (args := #[.pointer (some ⟨w.heap.size, 0, none⟩), .pointer (some ⟨w.heap.size + 1, 0, none⟩)]) (by simp) (by simp [go_sem]) ?_
    refine (take_catches w.heap.size (w.heap.size + 1) W3 noL noW 0 _ _ [] HE.out.2.1 HE.out.2.2.1 hne).mono ?_
    rintro e u' w'' ⟨rfl, rfl, rfl⟩
    exact door HE.out.1 HE.out.2.2.2.1 HE.out.2.2.2.2.1 (owned_no _ _) HE.out.2.2.2.2.2 _ rfl rfl
  rw [ee] at hp
  obtain ⟨⟨v, rfl, p, es, rfl, ho⟩, hr3, k3⟩ := hp
  rw [HA.out.2.1] at ee
  have hb3 := HB.out _ k3
  have hsb := (hb3.block w.heap.size (by omega)).trans G0.out.2.1
  have heb := (hb3.block (w.heap.size + 1) (by omega)).trans G0.out.2.2.1
  obtain ⟨y0, y1, y2, y3, y4, y5, y6, y7, y8, y9, y10⟩ := (boxL_heap hsb).cells
  have yl := (Array.getElem?_eq_some_iff.1 hsb).1
  have yf : ∀ o, W3.frozen? ⟨w.heap.size, o, none⟩ = false := fun o => frozen_of_row _ _ _ _ _ hsb
  have H3 := Lib.hid (⟨ee, ho, hb3, hsb, heb⟩ : _ ∧ _ ∧ _ ∧ _ ∧ _)
  clear ee ho hr3 k3 hb3 hsb heb
  go_wp2_with fail
  obtain ⟨V, hV⟩ : ∃ V, V = set11 w.heap.size W3 (.slice p.a0 L.secs.length p.c0) (.slice p.a1 L.sigs.length p.c1) (.slice p.a2 L.exits.length p.c2) (.slice p.a3 L.flanks.length p.c3) (.int .i64 L.t0) (.int .i64 L.t1) (.int .i64 L.t2) (.int .i64 L.t3) (.int .i64 L.t4) (.int .i64 L.t5) (.int .i64 L.t6) := ⟨_, rfl⟩
  have v1 : V.heap[w.heap.size]? = some (.cells (L.cells p).toArray 29 (0, 0)) := by rw [hV]; exact set11_box H3.out.2.2.2.1
  have v2 : V.heap[w.heap.size + 1]? = some (.cells #[.int .i64 0] 33 (0, 0)) := by rw [hV]; exact (set11_other (by omega)).trans H3.out.2.2.2.2
  have v3 : Below w.heap.size w V := by rw [hV]; exact set11_below (G0.out.1.trans (H3.out.2.2.1.mono (by omega))) (Nat.le_refl _)
  have v4 : Owned (w.heap.size + 2) V p L es := by rw [hV]; exact (H3.out.2.1.only set11_only (by omega)).base (by omega)
  unfold set11 at hV
  rw [← hV]
  have hput := put_any L p V v4.lay (HA.out.2.2.2.2.2.below v3)
  unfold Lay.val at hput
  have H4 := Lib.hid (⟨H3.out.1, v1, v2, v3, v4⟩ : _ ∧ _ ∧ _ ∧ _ ∧ _)
  have HP := Lib.hid hput
  clear hV v1 v2 v3 v4 hput y0 y1 y2 y3 y4 y5 y6 y7 y8 y9 y10 yl yf H3 HB HL
  (with_reducible refine HP.out.mono ?_)
  intro e W4 hp
  obtain ⟨hc, b4⟩ := hp
  have hsb := (b4.block w.heap.size (Array.getElem?_eq_some_iff.1 H4.out.2.1).1).trans H4.out.2.1
  have heb := (b4.block (w.heap.size + 1) (Array.getElem?_eq_some_iff.1 H4.out.2.2.1).1).trans H4.out.2.2.1
  obtain ⟨y0, y1, y2, y3, y4, y5, y6, y7, y8, y9, y10⟩ := (boxL_heap hsb).cells
  have yl := (Array.getElem?_eq_some_iff.1 hsb).1
  have yf : ∀ o, W4.frozen? ⟨w.heap.size, o, none⟩ = false := fun o => frozen_of_row _ _ _ _ _ hsb
  have z0 : W4.cell? ⟨w.heap.size + 1, 0, none⟩ = some (.int .i64 0) := by simp [World.cell?, heb]
  have zl := (Array.getElem?_eq_some_iff.1 heb).1
  have zf : W4.frozen? ⟨w.heap.size + 1, 0, none⟩ = false := frozen_of_row _ _ _ _ _ heb
  have hb4 : Below w.heap.size w W4 := bchain H4.out.2.2.2.1 b4
  have ho4 := H4.out.2.2.2.2.below b4
  have H5 := Lib.hid (⟨H4.out.1, hsb, heb, hb4, ho4⟩ : _ ∧ _ ∧ _ ∧ _ ∧ _)
  clear hsb heb hb4 ho4 H4 b4 HP
  have hne' : w.heap.size + 1 ≠ w.heap.size := by omega
  rcases hc with ⟨hr, rfl⟩ | ⟨hr, v, rfl, hv⟩
  · have htk := Lib.hid (take_form H5.out.1 (fun h => by rw [hr] at h; cases h.1))
    clear hr
    go_wp2_with fail
    refine leaves_cons (f := 31) (args := #[.pointer (some ⟨w.heap.size, 0, none⟩), .pointer (some ⟨w.heap.size + 1, 0, none⟩)]) (by simp) (by simp [go_sem]) ?_
    refine (take_idle w.heap.size (w.heap.size + 1) _).mono ?_
    rintro e u' w'' ⟨rfl, rfl, rfl⟩
    exact door_set (L0 := L) (p0 := p) (p := noW) htk.out H5.out.2.1 H5.out.2.2.1 (owned_no _ _) H5.out.2.2.2.1 _ rfl rfl
  · obtain ⟨A2, c2, rfl⟩ := ownsV hv
    obtain ⟨m, hm⟩ : ∃ m, m = (bytesL L).length := ⟨_, rfl⟩
    obtain ⟨q, hq⟩ : ∃ q, q = decide (bs = bytesL L) := ⟨_, rfl⟩
    have heq := bEqual_any A A2 n m cap c2 bs (bytesL L) W4 HA.out.1 hm (HA.out.2.2.1.below H5.out.2.2.2.1) (sl_get (at_of_row (k := 1) (fun _ => rfl) (by decide) hv)).1 HA.out.2.2.2.2.1 (pack_lt _)
    rw [← hq] at heq
    rw [← hm]
    have HE := Lib.hid heq
    have HQ := Lib.hid (⟨hq, hr⟩ : _ ∧ _)
    clear hr hv hm hq heq
    go_wp2_with fail
    (with_reducible refine HE.out.mono ?_)
    rintro e W5 ⟨rfl, rfl⟩
    cases q with
    | false =>
      have htk := Lib.hid (take_form H5.out.1 (fun h => absurd h.2.symm (of_decide_eq_false HQ.out.1.symm)))
      go_wp2_with fail
      refine leaves_cons (f := 31) (args := #[.pointer (some ⟨w.heap.size, 0, none⟩), .pointer (some ⟨w.heap.size + 1, 0, none⟩)]) (by simp) (by simp [go_sem]) ?_
      refine (take_idle w.heap.size (w.heap.size + 1) _).mono ?_
      rintro e u' w'' ⟨rfl, rfl, rfl⟩
      exact door_set (L0 := L) (p0 := p) (p := noW) htk.out H5.out.2.1 H5.out.2.2.1 (owned_no _ _) H5.out.2.2.2.1 _ rfl rfl
    | true =>
      have htk := Lib.hid (take_some H5.out.1 ⟨HQ.out.2, (of_decide_eq_true HQ.out.1.symm).symm⟩)
      go_wp2_with fail
      refine leaves_cons (f := 31) (args := #[.pointer (some ⟨w.heap.size, 0, none⟩), .pointer (some ⟨w.heap.size + 1, 0, none⟩)]) (by simp) (by simp [go_sem]) ?_
      refine (take_idle w.heap.size (w.heap.size + 1) _).mono ?_
      rintro e u' w'' ⟨rfl, rfl, rfl⟩
      exact door_set (L0 := L) (p0 := p) (p := p) htk.out H5.out.2.1 H5.out.2.2.1 H5.out.2.2.2.2 H5.out.2.2.2.1 _ rfl rfl
end Go.Proofs.YtpnnbihofoomeaaDoor

/-
  Reading what was written, plainly: the layout that its bytes tell; with fewer bits none, with more the same.
-/
namespace Go.Proofs.YtpnnbihofoomeaaDoor
open Go.RowKit Go.Shelf

/-! Of numbers that are there. -/
theorem takeN_num (f : Nat → Bool) (a n : Nat) : ∀ w, (∀ j, j < w → f (a + j) = n.testBit (w - 1 - j)) → takeN f a w = n % 2 ^ w
  | 0, _ => by simp [takeN, Nat.mod_one]
  | w + 1, h => by
    have ih := takeN_num f a (n / 2) w fun j hj => by
      rw [h j (by omega), show w + 1 - 1 - j = (w - 1 - j) + 1 by omega, Nat.testBit_succ]
    have hl := h w (by omega)
    rw [show w + 1 - 1 - w = 0 by omega, Nat.testBit_zero] at hl
    unfold takeN
    rw [ih, hl]
    have hb : bitN (decide (n % 2 = 1)) = n % 2 := by
      unfold bitN
      rcases Nat.mod_two_eq_zero_or_one n with h | h <;> simp [h]
    rw [hb, Nat.pow_succ, Nat.mul_comm (2 ^ w) 2, Nat.mod_mul]
    omega
/-- The bits f tell from a on what these numbers are. -/
def Tells (f : Nat → Bool) (a : Nat) (fs : List Fld) : Prop := ∀ j, j < widF fs → f (a + j) = bitL (bitsF fs) j
theorem Tells.left {f : Nat → Bool} {a : Nat} {fs gs : List Fld} (h : Tells f a (fs ++ gs)) : Tells f a fs := by
  intro j hj
  rw [h j (by rw [widF_append]; omega), bitsF_append]
  unfold bitL
  rw [List.getD_eq_getElem?_getD, List.getD_eq_getElem?_getD, List.getElem?_append_left (by rw [bitsF_length]; exact hj)]
theorem Tells.right {f : Nat → Bool} {a : Nat} {fs gs : List Fld} (h : Tells f a (fs ++ gs)) : Tells f (a + widF fs) gs := by
  intro j hj
  have h1 := h (widF fs + j) (by rw [widF_append]; omega)
  rw [Nat.add_assoc, h1, bitsF_append]
  unfold bitL
  rw [List.getD_eq_getElem?_getD, List.getD_eq_getElem?_getD, List.getElem?_append_right (by rw [bitsF_length]; omega), bitsF_length, Nat.add_sub_cancel_left]
/-- A reader that, of these numbers, reads that. -/
def Reads {α : Type} (r : Rd α) (fs : List Fld) (x : α) : Prop := ∀ f N a, Tells f a fs → a + widF fs ≤ N → r f N a = some (x, a + widF fs)
theorem Reads.ret {α : Type} (x : α) : Reads (rdRet x) [] x := fun _ _ a _ _ => by simp [rdRet, widF]
theorem Reads.bind {α β : Type} {r : Rd α} {k : α → Rd β} {fs gs : List Fld} {x : α} {y : β} (h : Reads r fs x) (h' : Reads (k x) gs y) : Reads (rdBind r k) (fs ++ gs) y := by
  intro f N a ht hN
  rw [widF_append] at hN ⊢
  unfold rdBind
  rw [h f N a ht.left (by omega)]
  show k x f N _ = _
  rw [h' f N _ ht.right (by omega), Nat.add_assoc]
theorem Reads.num {n w : Nat} (h : n < 2 ^ w) : Reads (rdN w) [((n : Int), (w : Int))] n := by
  intro f N a ht hN
  have hw : widF [((n : Int), (w : Int))] = w := by simp [widF]
  have hb : bitsF [((n : Int), (w : Int))] = numBits n w := by simp [bitsF]
  rw [hw] at hN ⊢
  unfold rdN
  rw [if_pos hN, takeN_num f a n w (fun j hj => ?_), Nat.mod_eq_of_lt h]
  rw [ht j (by rw [hw]; exact hj), hb]
  unfold bitL
  rw [List.getD_eq_getElem?_getD, numBits_get hj]
  rfl
theorem Reads.fld {x : Int} {w : Nat} (h : fitF (x, (w : Int))) : ∃ n : Nat, x = (n : Int) ∧ Reads (rdN w) [(x, (w : Int))] n := by
  obtain ⟨n, rfl⟩ := Int.eq_ofNat_of_zero_le h.1
  refine ⟨n, rfl, Reads.num ?_⟩
  have h2 : (n : Int) < 2 ^ w := h.2.1
  exact_mod_cast h2
theorem Reads.map {α β : Type} {r : Rd α} {fs : List Fld} {x : α} (g : α → β) (h : Reads r fs x) : Reads (rdBind r fun x => rdRet (g x)) fs (g x) := by
  have := h.bind (k := fun x => rdRet (g x)) (Reads.ret (g x))
  rwa [List.append_nil] at this
theorem Reads.many {α : Type} {r : Rd α} (F : α → List Fld) (xs : List α) (h : ∀ x ∈ xs, Reads r (F x) x) : Reads (rdMany r xs.length) (xs.flatMap F) xs := by
  have key : ∀ j, j ≤ xs.length → Reads (rdMany r j) ((xs.take j).flatMap F) (xs.take j) := by
    intro j
    induction j with
    | zero => exact fun _ => Reads.ret _
    | succ j ih =>
      intro hj
      have hg : xs[j]? = some xs[j] := List.getElem?_eq_getElem (by omega)
      rw [flat_take F hg]
      have := (ih (by omega)).bind (k := fun xs => rdBind r fun x => rdRet (xs ++ [x])) ((h xs[j] (List.getElem_mem _)).map fun x => xs.take j ++ [x])
      rw [List.take_add_one, hg]
      exact this
  have := key xs.length (Nat.le_refl _)
  rwa [List.take_length] at this

/-! The parts. -/
theorem reads_port {x : Prt} (h1 : fitF (x.s, 5)) (h2 : fitF (x.p, 2)) : Reads rdPort [(x.s, 5), (x.p, 2)] x := by
  obtain ⟨s, p⟩ := x
  obtain ⟨n, rfl, r1⟩ := Reads.fld (w := 5) h1
  obtain ⟨m, rfl, r2⟩ := Reads.fld (w := 2) h2
  exact r1.bind (r2.map fun p : Nat => (⟨(n : Int), (p : Int)⟩ : Prt))
theorem reads_flank {x : Flk} (h : ∀ f ∈ flF x, fitF f) : Reads rdFlank (flF x) x := by
  obtain ⟨s, w, p, q⟩ := x
  have h1 := h (s, 5) (by simp [flF])
  have h2 := h (w, 1) (by simp [flF])
  have h3 := h (p, 5) (by simp [flF])
  have h4 := h (q, 1) (by simp [flF])
  obtain ⟨n, rfl, r1⟩ := Reads.fld (w := 5) h1
  obtain ⟨m, rfl, r2⟩ := Reads.fld (w := 1) h2
  obtain ⟨k, rfl, r3⟩ := Reads.fld (w := 5) h3
  obtain ⟨l, rfl, r4⟩ := Reads.fld (w := 1) h4
  exact r1.bind (r2.bind (r3.bind (r4.map fun q : Nat => (⟨(n : Int), (m : Int), (k : Int), (q : Int)⟩ : Flk))))
theorem reads_step {x : Stp} (h : ∀ f ∈ stF x, fitF f) : Reads rdStp (stF x) x := by
  obtain ⟨s, i, o⟩ := x
  have h1 := h (s, 5) (by simp [stF])
  have h2 := h (i, 2) (by simp [stF])
  have h3 := h (o, 2) (by simp [stF])
  obtain ⟨n, rfl, r1⟩ := Reads.fld (w := 5) h1
  obtain ⟨m, rfl, r2⟩ := Reads.fld (w := 2) h2
  obtain ⟨k, rfl, r3⟩ := Reads.fld (w := 2) h3
  exact r1.bind (r2.bind (r3.map fun o : Nat => (⟨(n : Int), (m : Int), (o : Int)⟩ : Stp)))
theorem reads_exit {x : Ext'} (h : ∀ f ∈ exF x, fitF f) : Reads rdExit (exF x) x := by
  obtain ⟨s, p, o⟩ := x
  have h1 := h (s, 5) (by simp [exF, exhF])
  have h2 := h (p, 2) (by simp [exF, exhF])
  have h3 := h ((o.length : Nat), 2) (by simp [exF, exhF])
  have h4 : ∀ x ∈ o, ∀ f ∈ stF x, fitF f := fun x hx f hf => h f (List.mem_append.2 (.inr (List.mem_flatMap.2 ⟨x, hx, hf⟩)))
  have r1 := reads_port (x := ⟨s, p⟩) h1 h2
  obtain ⟨m, hm, r2⟩ := Reads.fld (w := 2) h3
  have hm' : m = o.length := by exact_mod_cast hm.symm
  subst hm'
  have r3 := Reads.many stF o fun x hx => reads_step (h4 x hx)
  have := r1.bind (k := fun p : Prt => rdBind (rdN 2) fun m => rdBind (rdMany rdStp m) fun o => rdRet (Ext'.mk p.s p.p o)) (r2.bind (k := fun m => rdBind (rdMany rdStp m) fun o => rdRet (Ext'.mk s p o)) (r3.map fun o => Ext'.mk s p o))
  exact this
theorem reads_time {t : Int} (h : fitF (t - 1, 10)) : Reads rdTime (tmF t) t := by
  obtain ⟨n, hn, r⟩ := Reads.fld (w := 10) h
  have := r.map fun t : Nat => (t : Int) + 1
  rw [← hn, Int.sub_add_cancel] at this
  exact this
/-- Port p of a section. -/
def secJ (c : Sec) (p : Nat) : Prt := ⟨c.S p, c.P p⟩
theorem reads_join {c : Sec} {p : Nat} (h : mayT (c.S p) (c.P p) = true) (hf : ∀ f ∈ jF c p, fitF f) : Reads rdJoin (jF c p) (secJ c p) := by
  unfold mayT at h
  simp only [Bool.or_eq_true, Bool.and_eq_true, beq_iff_eq, decide_eq_true_eq] at h
  unfold jF at hf ⊢
  unfold secJ
  split
  · rename_i hneg
    rw [if_pos hneg] at hf
    have hs : c.S p = -1 ∧ c.P p = 0 := by omega
    rw [hs.1, hs.2]
    have r := Reads.num (n := 0) (w := 1) (by decide)
    have := r.bind (k := fun b => if 0 < b then rdPort else rdRet ⟨-1, 0⟩) (gs := []) (y := ⟨-1, 0⟩) (by rw [if_neg (by decide)]; exact Reads.ret _)
    exact this
  · rename_i hneg
    rw [if_neg hneg] at hf
    have r := Reads.num (n := 1) (w := 1) (by decide)
    have r2 := reads_port (x := ⟨c.S p, c.P p⟩) (hf _ (by simp)) (hf _ (by simp))
    have := r.bind (k := fun b => if 0 < b then rdPort else rdRet ⟨-1, 0⟩) (gs := [(c.S p, 5), (c.P p, 2)]) (y := ⟨c.S p, c.P p⟩) (by rw [if_pos (by decide)]; exact r2)
    exact this
theorem jsF_flat (c : Sec) : ∀ p, jsF c p = (List.range p).flatMap (jF c)
  | 0 => rfl
  | p + 1 => by rw [List.range_succ, List.flatMap_append]; show jsF c p ++ jF c p = _; rw [jsF_flat c p]; simp
theorem csF_flat (c : Sec) : ∀ p, csF c p = (List.range p).flatMap fun w => [(c.C w, 2)]
  | 0 => rfl
  | p + 1 => by rw [List.range_succ, List.flatMap_append]; show csF c p ++ [(c.C p, 2)] = _; rw [csF_flat c p]; simp
theorem reads_row {α : Type} {r : Rd α} (F : Nat → List Fld) (g : Nat → α) (m : Nat) (h : ∀ q, q < m → Reads r (F q) (g q)) : Reads (rdMany r m) ((List.range m).flatMap F) ((List.range m).map g) := by
  induction m with
  | zero => exact Reads.ret _
  | succ m ih =>
    rw [List.range_succ, List.flatMap_append, List.map_append]
    have := (ih fun q hq => h q (by omega)).bind (k := fun xs => rdBind r fun x => rdRet (xs ++ [x])) ((h m (by omega)).map fun x => (List.range m).map g ++ [x])
    simp only [List.flatMap_cons, List.flatMap_nil, List.append_nil, List.map_cons, List.map_nil]
    exact this
theorem right_off {c : Sec} (h : rightT c = true) {p : Nat} (hp : (kPorts c.k).toNat ≤ p) (hp4 : p < 4) : c.S p = -1 ∧ c.P p = 0 := by
  unfold rightT at h
  simp only [Bool.and_eq_true] at h
  obtain ⟨⟨_, ⟨⟨h0, h1⟩, h2⟩, h3⟩, _⟩ := h
  have hpt : portT c p = true := by
    obtain rfl | rfl | rfl | rfl : p = 0 ∨ p = 1 ∨ p = 2 ∨ p = 3 := by omega
    · exact h0
    · exact h1
    · exact h2
    · exact h3
  unfold portT at hpt
  rw [if_neg (by omega)] at hpt
  simpa using hpt
theorem right_none {c : Sec} (h : rightT c = true) {p : Nat} (hp : (kMany c.k).toNat ≤ p) (hp2 : p < 2) : c.C p = 0 := by
  unfold rightT at h
  simp only [Bool.and_eq_true] at h
  obtain ⟨_, h0, h1⟩ := h
  have hct : classT c p = true := by
    obtain rfl | rfl : p = 0 ∨ p = 1 := by omega
    · exact h0
    · exact h1
  unfold classT at hct
  simp only [Bool.and_eq_true, Bool.or_eq_true, decide_eq_true_eq] at hct
  omega
theorem reads_sec {c : Sec} (h : rightT c = true) : Reads rdSec (secF c) c := by
  have hk := right_kind h
  have h4 := kPorts_le c.k
  have h2 := kMany_le c.k
  have r1 : ∃ n : Nat, c.k = (n : Int) ∧ Reads (rdN 2) [(c.k, 2)] n := Reads.fld (w := 2) (fit2 (by omega))
  obtain ⟨n, hn, r1⟩ := r1
  have r2 := reads_row (r := rdJoin) (jF c) (secJ c) (kPorts c.k).toNat fun q hq => reads_join (right_port h hq) (jF_fit (right_port h hq)).1
  have hcs : ∃ cs : List Nat, (cs.length = (kMany c.k).toNat ∧ ∀ p, p < (kMany c.k).toNat → c.C p = ((cs.getD p 0 : Nat) : Int)) ∧ Reads (rdMany (rdN 2) (kMany c.k).toNat) ((List.range (kMany c.k).toNat).flatMap fun w => [(c.C w, 2)]) cs := by
    refine ⟨(List.range (kMany c.k).toNat).map fun w => (c.C w).toNat, ⟨by simp, fun p hp => ?_⟩, reads_row (r := rdN 2) (fun w => [(c.C w, 2)]) (fun w => (c.C w).toNat) (kMany c.k).toNat fun q hq => ?_⟩
    · have := right_class h hp
      rw [List.getD_eq_getElem?_getD, List.getElem?_map, List.getElem?_range hp]
      show _ = ((c.C p).toNat : Int)
      omega
    · have := right_class h hq
      have hr := Reads.num (n := (c.C q).toNat) (w := 2) (by omega)
      rwa [Int.toNat_of_nonneg this.1] at hr
  obtain ⟨cs, ⟨hcl, hcs⟩, r3⟩ := hcs
  have r := r1.bind (k := fun k : Nat => rdBind (rdMany rdJoin (kPorts k).toNat) fun js => rdBind (rdMany (rdN 2) (kMany k).toNat) fun cs => rdRet (mid k js 4 cs))
    (show Reads (rdBind (rdMany rdJoin (kPorts (n : Int)).toNat) fun js => rdBind (rdMany (rdN 2) (kMany (n : Int)).toNat) fun cs => rdRet (mid (n : Int) js 4 cs)) _ _ by rw [← hn]; exact r2.bind (r3.map fun cs => mid c.k ((List.range (kPorts c.k).toNat).map (secJ c)) 4 cs))
  have hmid : mid c.k ((List.range (kPorts c.k).toNat).map (secJ c)) 4 cs = c := by
    have hp : ∀ q, q < 4 → portAt ((List.range (kPorts c.k).toNat).map (secJ c)) 4 q = secJ c q := by
      intro q hq
      unfold portAt
      rw [if_pos hq, List.getD_eq_getElem?_getD, List.getElem?_map]
      by_cases hqk : q < (kPorts c.k).toNat
      · rw [List.getElem?_range hqk]
        rfl
      · rw [List.getElem?_eq_none (by simp; omega)]
        obtain ⟨e1, e2⟩ := right_off h (p := q) (by omega) hq
        unfold secJ
        rw [e1, e2]
        rfl
    have hc : ∀ q, q < 2 → ((cs.getD q 0 : Nat) : Int) = c.C q := by
      intro q hq
      by_cases hqk : q < (kMany c.k).toNat
      · exact (hcs q hqk).symm
      · rw [right_none h (p := q) (by omega) hq, List.getD_eq_getElem?_getD, List.getElem?_eq_none (by omega)]
        rfl
    unfold mid
    rw [hp 0 (by omega), hp 1 (by omega), hp 2 (by omega), hp 3 (by omega), hc 0 (by omega), hc 1 (by omega)]
    rfl
  rw [hmid] at r
  unfold secF
  rw [jsF_flat, csF_flat, List.append_assoc]
  exact r
/-- Of a layout's numbers the layout is read. -/
theorem reads_lay {L : Lay} (h : rightL L = true) : Reads rdLay (fieldsL L) L := by
  have hf := (right_fields h).1
  obtain ⟨⟨l0, l1, l2, l3⟩, ht, hs, hfl, _, hg, hx, ho⟩ := (right_iff L).1 h
  rw [List.all_eq_true] at hs
  have mem : ∀ f, (f ∈ headF L ∨ f ∈ L.sigs.flatMap sigF ∨ f ∈ L.exits.flatMap exF ∨ f ∈ L.flanks.flatMap flF ∨ f ∈ L.times.flatMap tmF) → fitF f := fun f hh => hf f (by
    unfold fieldsL
    simp only [List.mem_append]
    rcases hh with h | h | h | h | h
    · exact .inl (.inl (.inl (.inl (.inl h))))
    · exact .inl (.inl (.inl (.inr h)))
    · exact .inl (.inl (.inr h))
    · exact .inl (.inr h)
    · exact .inr h)
  have r0 := Reads.num (n := L.secs.length) (w := 5) (by omega)
  have r1 := Reads.num (n := L.sigs.length) (w := 4) (by omega)
  have r2 := Reads.num (n := L.exits.length) (w := 4) (by omega)
  have r3 := Reads.num (n := L.flanks.length) (w := 5) (by omega)
  have ra := Reads.many secF L.secs fun x hx => reads_sec (hs x hx)
  have rb := Reads.many sigF L.sigs fun x hx => reads_port (mem _ (.inr (.inl (List.mem_flatMap.2 ⟨x, hx, by simp [sigF]⟩)))) (mem _ (.inr (.inl (List.mem_flatMap.2 ⟨x, hx, by simp [sigF]⟩))))
  have rc := Reads.many exF L.exits fun x hx => reads_exit fun f hf' => mem _ (.inr (.inr (.inl (List.mem_flatMap.2 ⟨x, hx, hf'⟩))))
  have rd := Reads.many flF L.flanks fun x hx => reads_flank fun f hf' => mem _ (.inr (.inr (.inr (.inl (List.mem_flatMap.2 ⟨x, hx, hf'⟩)))))
  have re := Reads.many tmF L.times fun x hx => reads_time (mem _ (.inr (.inr (.inr (.inr (List.mem_flatMap.2 ⟨x, hx, by simp [tmF]⟩))))))
  have q8 := re.map fun t => layOf L.secs L.sigs L.exits L.flanks t
  have q7 := rd.bind (k := fun d => rdBind (rdMany rdTime 7) fun t => rdRet (layOf L.secs L.sigs L.exits d t)) q8
  have q6 := rc.bind (k := fun c => rdBind (rdMany rdFlank L.flanks.length) fun d => rdBind (rdMany rdTime 7) fun t => rdRet (layOf L.secs L.sigs c d t)) q7
  have q5 := rb.bind (k := fun b => rdBind (rdMany rdExit L.exits.length) fun c => rdBind (rdMany rdFlank L.flanks.length) fun d => rdBind (rdMany rdTime 7) fun t => rdRet (layOf L.secs b c d t)) q6
  have q4 := ra.bind (k := fun a => rdBind (rdMany rdPort L.sigs.length) fun b => rdBind (rdMany rdExit L.exits.length) fun c => rdBind (rdMany rdFlank L.flanks.length) fun d => rdBind (rdMany rdTime 7) fun t => rdRet (layOf a b c d t)) q5
  have q3 := r3.bind (k := fun n3 => rdBind (rdMany rdSec L.secs.length) fun a => rdBind (rdMany rdPort L.sigs.length) fun b => rdBind (rdMany rdExit L.exits.length) fun c => rdBind (rdMany rdFlank n3) fun d => rdBind (rdMany rdTime 7) fun t => rdRet (layOf a b c d t)) q4
  have q2 := r2.bind (k := fun n2 => rdBind (rdN 5) fun n3 => rdBind (rdMany rdSec L.secs.length) fun a => rdBind (rdMany rdPort L.sigs.length) fun b => rdBind (rdMany rdExit n2) fun c => rdBind (rdMany rdFlank n3) fun d => rdBind (rdMany rdTime 7) fun t => rdRet (layOf a b c d t)) q3
  have q1 := r1.bind (k := fun n1 => rdBind (rdN 4) fun n2 => rdBind (rdN 5) fun n3 => rdBind (rdMany rdSec L.secs.length) fun a => rdBind (rdMany rdPort n1) fun b => rdBind (rdMany rdExit n2) fun c => rdBind (rdMany rdFlank n3) fun d => rdBind (rdMany rdTime 7) fun t => rdRet (layOf a b c d t)) q2
  have q0 := r0.bind (k := fun n0 => rdBind (rdN 4) fun n1 => rdBind (rdN 4) fun n2 => rdBind (rdN 5) fun n3 => rdBind (rdMany rdSec n0) fun a => rdBind (rdMany rdPort n1) fun b => rdBind (rdMany rdExit n2) fun c => rdBind (rdMany rdFlank n3) fun d => rdBind (rdMany rdTime 7) fun t => rdRet (layOf a b c d t)) q1
  have e : fieldsL L = [(((L.secs.length : Nat) : Int), (5 : Int))] ++ ([(((L.sigs.length : Nat) : Int), (4 : Int))] ++ ([(((L.exits.length : Nat) : Int), (4 : Int))] ++ ([(((L.flanks.length : Nat) : Int), (5 : Int))] ++ (L.secs.flatMap secF ++ (L.sigs.flatMap sigF ++ (L.exits.flatMap exF ++ (L.flanks.flatMap flF ++ L.times.flatMap tmF))))))) := by
    unfold fieldsL headF
    simp only [List.append_assoc, List.cons_append, List.nil_append]
  rw [e]
  exact q0
end Go.Proofs.YtpnnbihofoomeaaDoor

/-
  What is read hangs on the bits that are read alone; a layout has 88 bits at least.
-/
namespace Go.Proofs.YtpnnbihofoomeaaDoor
open Go.RowKit Go.Shelf

/-- With the same bits the same is read; where they end ahead of its end none. -/
def Loc {α : Type} (r : Rd α) : Prop := ∀ (f : Nat → Bool) (N a : Nat) (x : α) (b : Nat), r f N a = some (x, b) → a ≤ b ∧ ∀ (g : Nat → Bool) (M : Nat), (∀ i, a ≤ i → i < b → i < M → g i = f i) → (b ≤ M → r g M a = some (x, b)) ∧ (a ≤ M → M < b → r g M a = none)
theorem Loc.ret {α : Type} (x : α) : Loc (rdRet x) := by
  intro f N a y b h
  obtain ⟨rfl, rfl⟩ : x = y ∧ a = b := by simpa [rdRet] using h
  exact ⟨Nat.le_refl _, fun g M _ => ⟨fun _ => rfl, fun h1 h2 => by omega⟩⟩
theorem takeN_congr {f g : Nat → Bool} {a : Nat} : ∀ {w : Nat}, (∀ j, j < w → g (a + j) = f (a + j)) → takeN g a w = takeN f a w
  | 0, _ => rfl
  | w + 1, h => by
    unfold takeN
    rw [takeN_congr fun j hj => h j (by omega), h w (by omega)]
theorem Loc.num (w : Nat) : Loc (rdN w) := by
  intro f N a y b h
  unfold rdN at h
  split at h
  · obtain ⟨rfl, rfl⟩ : takeN f a w = y ∧ a + w = b := by simpa using h
    refine ⟨by omega, fun g M hg => ⟨fun h1 => ?_, fun h1 h2 => ?_⟩⟩
    · unfold rdN
      rw [if_pos h1, takeN_congr fun j hj => hg (a + j) (by omega) (by omega) (by omega)]
    · unfold rdN
      rw [if_neg (by omega)]
  · cases h
theorem bind_some {α β : Type} {r : Rd α} {k : α → Rd β} {f : Nat → Bool} {N a b : Nat} {y : β} (h : rdBind r k f N a = some (y, b)) : ∃ x c, r f N a = some (x, c) ∧ k x f N c = some (y, b) := by
  unfold rdBind at h
  split at h
  · rename_i x c e
    exact ⟨x, c, e, h⟩
  · cases h
theorem Loc.bind {α β : Type} {r : Rd α} {k : α → Rd β} (h : Loc r) (h' : ∀ x, Loc (k x)) : Loc (rdBind r k) := by
  intro f N a y b hh
  obtain ⟨x, c, e1, e2⟩ := bind_some hh
  obtain ⟨l1, p1⟩ := h f N a x c e1
  obtain ⟨l2, p2⟩ := h' x f N c y b e2
  refine ⟨by omega, fun g M hg => ?_⟩
  obtain ⟨q1, q2⟩ := p1 g M fun i h1 h2 h3 => hg i h1 (by omega) h3
  obtain ⟨q3, q4⟩ := p2 g M fun i h1 h2 h3 => hg i (by omega) h2 h3
  refine ⟨fun hb => ?_, fun ha hb => ?_⟩
  · unfold rdBind
    rw [q1 (by omega)]
    exact q3 hb
  · unfold rdBind
    by_cases hc : c ≤ M
    · rw [q1 hc]
      exact q4 hc hb
    · rw [q2 ha (by omega)]
theorem Loc.many {α : Type} {r : Rd α} (h : Loc r) : ∀ n, Loc (rdMany r n)
  | 0 => Loc.ret _
  | n + 1 => (Loc.many h n).bind fun _ => h.bind fun _ => Loc.ret _
theorem loc_port : Loc rdPort := (Loc.num 5).bind fun _ => (Loc.num 2).bind fun _ => Loc.ret _
theorem loc_flank : Loc rdFlank := (Loc.num 5).bind fun _ => (Loc.num 1).bind fun _ => (Loc.num 5).bind fun _ => (Loc.num 1).bind fun _ => Loc.ret _
theorem loc_step : Loc rdStp := (Loc.num 5).bind fun _ => (Loc.num 2).bind fun _ => (Loc.num 2).bind fun _ => Loc.ret _
theorem loc_exit : Loc rdExit := loc_port.bind fun _ => (Loc.num 2).bind fun _ => (Loc.many loc_step _).bind fun _ => Loc.ret _
theorem loc_join : Loc rdJoin := (Loc.num 1).bind fun b => by
  by_cases h : 0 < b
  · rw [if_pos h]; exact loc_port
  · rw [if_neg h]; exact Loc.ret _
theorem loc_sec : Loc rdSec := (Loc.num 2).bind fun _ => (Loc.many loc_join _).bind fun _ => (Loc.many (Loc.num 2) _).bind fun _ => Loc.ret _
theorem loc_time : Loc rdTime := (Loc.num 10).bind fun _ => Loc.ret _
theorem loc_lay : Loc rdLay := (Loc.num 5).bind fun _ => (Loc.num 4).bind fun _ => (Loc.num 4).bind fun _ => (Loc.num 5).bind fun _ =>
  (Loc.many loc_sec _).bind fun _ => (Loc.many loc_port _).bind fun _ => (Loc.many loc_exit _).bind fun _ => (Loc.many loc_flank _).bind fun _ => (Loc.many loc_time _).bind fun _ => Loc.ret _
theorem Loc.le {α : Type} {r : Rd α} (h : Loc r) {f : Nat → Bool} {N a b : Nat} {x : α} (e : r f N a = some (x, b)) (ha : a ≤ N) : b ≤ N := by
  apply Nat.le_of_not_lt
  intro hb
  have := ((h f N a x b e).2 f N fun _ _ _ _ => rfl).2 ha hb
  rw [e] at this
  cases this
/-- So many bits at least are read. -/
def Least {α : Type} (r : Rd α) (m : Nat) : Prop := ∀ (f : Nat → Bool) (N a : Nat) (x : α) (b : Nat), r f N a = some (x, b) → a + m ≤ b
theorem Loc.least {α : Type} {r : Rd α} (h : Loc r) : Least r 0 := fun f N a x b e => (h f N a x b e).1
theorem least_num (w : Nat) : Least (rdN w) w := by
  intro f N a x b h
  unfold rdN at h
  split at h
  · cases h
    exact Nat.le_refl _
  · cases h
theorem Least.bind {α β : Type} {r : Rd α} {k : α → Rd β} {m n : Nat} (h : Least r m) (h' : ∀ x, Least (k x) n) : Least (rdBind r k) (m + n) := by
  intro f N a y b hh
  obtain ⟨x, c, e1, e2⟩ := bind_some hh
  have := h _ _ _ _ _ e1
  have := h' _ _ _ _ _ _ e2
  omega
theorem least_ret {α : Type} (x : α) : Least (rdRet x) 0 := (Loc.ret x).least
theorem Least.many {α : Type} {r : Rd α} {m : Nat} (h : Least r m) : ∀ n, Least (rdMany r n) (n * m)
  | 0 => by rw [Nat.zero_mul]; exact least_ret _
  | n + 1 => by
    have := (Least.many h n).bind (k := fun xs => rdBind r fun x => rdRet (xs ++ [x])) fun _ => h.bind fun _ => least_ret _
    rw [Nat.add_zero, ← Nat.succ_mul] at this
    exact this
theorem least_lay : Least rdLay 88 :=
  (least_num 5).bind (n := 83) fun _ => (least_num 4).bind (n := 79) fun _ => (least_num 4).bind (n := 75) fun _ => (least_num 5).bind (n := 70) fun _ =>
  (Loc.many loc_sec _).least.bind (n := 70) fun _ => (Loc.many loc_port _).least.bind (n := 70) fun _ => (Loc.many loc_exit _).least.bind (n := 70) fun _ => (Loc.many loc_flank _).least.bind (n := 70) fun _ => (Least.many (r := rdTime) (m := 10) ((least_num 10).bind (n := 0) fun _ => least_ret _) 7).bind (n := 0) fun _ => least_ret _

/-! What is put is taken. -/
theorem bytes_length (L : Lay) : (bytesL L).length = (widF (fieldsL L) + 7) / 8 := by unfold bytesL; rw [pack_length, bitsF_length]
theorem read_put {L : Lay} (h : rightL L = true) : rdLay (bitB (bytesL L)) (8 * (bytesL L).length) 0 = some (L, widF (fieldsL L)) := by
  have := reads_lay h (bitB (bytesL L)) (8 * (bytesL L).length) 0 (fun j _ => by unfold bytesL; rw [Nat.zero_add, bit_pack]) (by rw [bytes_length]; omega)
  rwa [Nat.zero_add] at this
theorem read_less {L : Lay} (h : rightL L = true) : rdLay (bitB ((bytesL L).take ((bytesL L).length - 1))) (8 * ((bytesL L).take ((bytesL L).length - 1)).length) 0 = none := by
  have hw := (right_fields h).2.2
  have hl := bytes_length L
  refine ((loc_lay _ _ _ _ _ (read_put h)).2 _ _ fun i _ _ hi => ?_).2 (Nat.zero_le _) ?_
  · rw [List.length_take] at hi
    unfold bitB
    rw [List.getD_eq_getElem?_getD, List.getD_eq_getElem?_getD, List.getElem?_take_of_lt (by omega)]
  · rw [List.length_take]
    omega
theorem read_more {L : Lay} (h : rightL L = true) (bs : List Nat) : rdLay (bitB (bytesL L ++ bs)) (8 * (bytesL L ++ bs).length) 0 = some (L, widF (fieldsL L)) := by
  have hl := bytes_length L
  refine ((loc_lay _ _ _ _ _ (read_put h)).2 _ _ fun i _ hi _ => ?_).1 ?_
  · unfold bitB
    rw [List.getD_eq_getElem?_getD, List.getD_eq_getElem?_getD, List.getElem?_append_left (by omega)]
  · rw [List.length_append]
    omega
theorem read_long {bs : List Nat} {L : Lay} {b : Nat} (h : rdLay (bitB bs) (8 * bs.length) 0 = some (L, b)) : 11 ≤ bs.length := by
  have h1 := least_lay _ _ _ _ _ h
  have h2 := loc_lay.le h (Nat.zero_le _)
  omega
theorem lay_ext {L M : Lay} (h0 : L.times = M.times) (h1 : L.secs = M.secs) (h2 : L.sigs = M.sigs) (h3 : L.flanks = M.flanks) (h4 : L.exits = M.exits) : L = M := by
  obtain ⟨a, b, c, d, t0, t1, t2, t3, t4, t5, t6⟩ := L
  obtain ⟨a', b', c', d', u0, u1, u2, u3, u4, u5, u6⟩ := M
  simp only [Lay.times, List.cons.injEq, and_true] at h0 h1 h2 h3 h4
  obtain ⟨rfl, rfl, rfl, rfl, rfl, rfl, rfl⟩ := h0
  subst h1 h2 h3 h4
  rfl
theorem same_eq_lay (L M : Lay) : sameL L M = true ↔ L = M := by
  rw [same_iff]
  exact ⟨fun ⟨h0, h1, h2, h3, h4⟩ => lay_ext h0 h1 h2 h3 h4, fun h => by subst h; exact ⟨rfl, rfl, rfl, rfl, rfl⟩⟩
theorem bytes_inj {L M : Lay} (h : rightL L = true) (h' : rightL M = true) (e : bytesL L = bytesL M) : L = M := by
  have h1 := read_put h
  rw [e, read_put h'] at h1
  cases h1
  rfl
theorem bytes_same {L M : Lay} (h : rightL L = true) (h' : rightL M = true) : decide (bytesL L = bytesL M) = sameL L M := by
  rw [Bool.eq_iff_iff, decide_eq_true_iff, same_eq_lay]
  exact ⟨bytes_inj h h', fun e => by rw [e]⟩
/-! Of another time. -/
def setT (L : Lay) (t : Int) : Lay := { L with t6 := t }
theorem setT_right {L : Lay} {t : Int} (h : rightL L = true) (h1 : 1 ≤ t) (h2 : t ≤ 1000) : rightL (setT L t) = true := by
  obtain ⟨a, b, c⟩ := (right_iff L).1 h
  refine (right_iff _).2 ⟨a, ?_, c⟩
  unfold timesT at b ⊢
  simp only [Lay.times, List.all_cons, List.all_nil, Bool.and_true, Bool.and_eq_true, decide_eq_true_eq, setT] at b ⊢
  omega
theorem setT_length (L : Lay) (t : Int) : (bytesL (setT L t)).length = (bytesL L).length := by
  have h : widF ((setT L t).times.flatMap tmF) = widF (L.times.flatMap tmF) := by simp [Lay.times, tmF, widF]
  have h' : widF (fieldsL (setT L t)) = widF (fieldsL L) := by
    unfold fieldsL
    rw [widF_append, h, ← widF_append]
    rfl
  rw [bytes_length, bytes_length, h']
theorem setT_same (L : Lay) (t : Int) : sameL L (setT L t) = decide (L.t6 = t) := by
  rw [Bool.eq_iff_iff, decide_eq_true_iff, same_eq_lay]
  constructor
  · intro h
    have := congrArg Lay.t6 h
    exact this
  · rintro rfl
    rfl
end Go.Proofs.YtpnnbihofoomeaaDoor

/-
  lockbarlaw08.empty, wakes.
-/
namespace Go.Proofs.YtpnnbihofoomeaaDoor
open Go.RowKit Go.Shelf
attribute [local go_sem] Oper.semAt_some

/-- Take, as it is told plainly. -/
theorem take_is {bs : List Nat} {L : Lay} {x : Int} (h : takeL bs = (L, x)) (A : Option Addr) (n cap : Nat) (w : World) (hn : n = bs.length) (hA : At w 1 bEnc A bs) (hl : bs.length ≤ 1000) (h8 : ∀ b ∈ bs, b < 256) (K : Kinds w) :
    Calls Tryd.prog 11 #[.slice A n cap] w fun e w' => ∃ p es, e = .returned (.tuple #[L.val p, .int .i64 x]) ∧ Owned w.heap.size w' p L es ∧ Below w.heap.size w w' := by
  refine (take_any A n cap bs w hn hA hl h8 K).mono ?_
  intro e w' ⟨⟨p, es, he, ho⟩, hb⟩
  rw [h] at he ho
  exact ⟨p, es, he, ho, hb⟩
/-- A layout's new variable. -/
theorem new_lay (W : World) (L : Lay) (p : Where) : (set11 W.heap.size (W.alloc (.cells (noL.cells noW).toArray 29)) (.slice p.a0 L.secs.length p.c0) (.slice p.a1 L.sigs.length p.c1) (.slice p.a2 L.exits.length p.c2) (.slice p.a3 L.flanks.length p.c3) (.int .i64 L.t0) (.int .i64 L.t1) (.int .i64 L.t2) (.int .i64 L.t3) (.int .i64 L.t4) (.int .i64 L.t5) (.int .i64 L.t6)).heap[W.heap.size]? = some (.cells (L.cells p).toArray 29 (0, 0)) ∧
    Below W.heap.size W (set11 W.heap.size (W.alloc (.cells (noL.cells noW).toArray 29)) (.slice p.a0 L.secs.length p.c0) (.slice p.a1 L.sigs.length p.c1) (.slice p.a2 L.exits.length p.c2) (.slice p.a3 L.flanks.length p.c3) (.int .i64 L.t0) (.int .i64 L.t1) (.int .i64 L.t2) (.int .i64 L.t3) (.int .i64 L.t4) (.int .i64 L.t5) (.int .i64 L.t6)) :=
  ⟨set11_box (World.alloc_heap_new _ _), set11_below bself (Nat.le_refl _)⟩
theorem at_at {α : Type} {enc : α → List Value} {k n : Nat} {W : World} {cs : Array Value} {T : TypeId} {y : α} (hn : n = W.heap.size) (h : enc y = cs.toList) : At (W.alloc (.cells cs T)) k enc (some ⟨n, 0, none⟩) [y] := by
  subst hn
  exact at_one h
/-- What grew a new row of one's own is below it as it was. -/
theorem bgrown {B : Nat} {X Y V : World} {e size : Nat} {v : Value} {n : Nat} {xs : List Value} (hr : Y.ownsRow B e size v n xs) (hg : Y.grownBy V v.ownBlock) (hX : Below B X Y) (hB : B ≤ Y.heap.size) : Below B X V := by
  refine hX.grown hg hB fun k hk => ?_
  rcases hr.2 with ⟨rfl, _⟩ | ⟨g, cap, cur, rfl, hb, _⟩
  · cases hk
  · cases hk
    exact hb
theorem run_buildNone (w : World) : (Instr.buildSlice 30 0 #[]).run Tryd.prog w = .ok (.slice (some ⟨w.heap.size, 0, none⟩) 0 0) (w.alloc (.cells #[] 5)) := by
  obtain ⟨i0, z0, hi, hz1, hs1, hs2, hs3⟩ := info_u8
  simp [Instr.buildSlice, run_underlying Tryd.underlying30, sizeOf, typeInfo, hi, newRow, Instr.fill, Array.range_zero']
theorem info_u8' : ∃ i, Tryd.prog.info? 5 = some i ∧ i.zero = some (.int .u8 0) ∧ i.size = 1 ∧ i.bytes ≤ 100 := by
  have h : (Tryd.prog.info? 5).bind (fun i => i.zero) = some (.int .u8 0) := by kernel_rfl
  obtain ⟨i0, z0, hi, hz1, hs1, hs2, hs3⟩ := info_u8
  rw [hi] at h
  exact ⟨i0, hi, h, hs1, hs3⟩
theorem run_make11 (w : World) : (Instr.makeSlice 30 (.int .i64 11) (.int .i64 11)).run Tryd.prog w = .ok (.slice (some ⟨w.heap.size, 0, none⟩) 11 11) (w.alloc (.cells (List.replicate 11 (Value.int .u8 0)).toArray 5)) := by
  obtain ⟨i, hi, hz, hs, hb⟩ := info_u8'
  have := run_make w 30 5 i (.int .u8 0) Tryd.underlying30 hi hz .i64 .i64 11 11 (by omega) (by omega) (by omega) (by omega)
  have hm : madeCells (Value.int .u8 0).cells (Int.toNat 11 * 1) = (List.replicate 11 (Value.int .u8 0)).toArray := by
    show madeCells #[.int .u8 0] 11 = _
    rw [← toList_madeCells_one]
  rw [this, hs, hm]
  rfl
/-- A new row of eleven zeros. -/
def NewZ (v : Value) (w : World) : Prop := ∃ g, v = .slice (some ⟨g, 0, none⟩) 11 11 ∧ At w 1 bEnc (some ⟨g, 0, none⟩) (List.replicate 11 0)
theorem NewZ.step {W W' : World} {v : Value} (h : NewZ v W) (b : StB W W') : NewZ v W' := by
  obtain ⟨g, e, hA⟩ := h
  exact ⟨g, e, hA.below b⟩
theorem rel_newZ {P : Program} {U W : World} {r : Result Next} (h : r = .ok (.value (.slice (some ⟨W.heap.size, 0, none⟩) 11 11)) (W.alloc (.cells (List.replicate 11 (Value.int .u8 0)).toArray 5))) (hC : ClB U W) : relUpon P (ClB U) StB W NewZ r := by
  rw [h]
  exact ⟨hC.step bself, bself, _, rfl, (sl_get (at_of_row (k := 1) (enc := bEnc) (xs := List.replicate 11 0) (fun _ => rfl) (by decide) (World.ownsRow_lit (base := W.heap.size) (size := 1) W (List.replicate 11 (Value.int .u8 0)).toArray 11 (Nat.le_refl _) (by unfold maxLen; omega) rfl))).1⟩
def eL : Lay := ⟨[], [], [], [], 1, 1, 1, 1, 1, 1, 1⟩
def z11 : List Nat := List.replicate 11 0
theorem e_right : rightL eL = true ∧ rightL noL = false := by decide +kernel
theorem e_bytes : bytesL eL = z11 := by decide +kernel
theorem z11_lt : ∀ b ∈ z11, b < 256 := by decide
theorem z11_enc : z11.flatMap bEnc = List.replicate 11 (.int .u8 0) := rfl
theorem e_take : takeL z11 = (eL, 0) := by
  rw [← e_bytes]
  exact take_some (read_put e_right.1) ⟨e_right.1, rfl⟩
theorem e_short : takeL [0] = (noL, 40) := by
  refine take_none ?_
  rcases h : rdLay (bitB [0]) (8 * [0].length) 0 with _ | ⟨L, b⟩
  · rfl
  · have := read_long h
    simp at this
theorem e_more : takeL (z11 ++ [0]) = (noL, 41) := by
  rw [← e_bytes]
  refine take_form (read_more e_right.1 [0]) fun h => ?_
  have := congrArg List.length h.2
  rw [List.length_append] at this
  simp at this
theorem lay_e (W : World) : LayAt W noW eL := ⟨.inl rfl, .inl rfl, ⟨[], rfl, .inl rfl, fun _ h => by cases h⟩, .inl rfl, by decide, by decide, by decide, by decide, fun _ h => by cases h⟩
theorem lay_no (W : World) : LayAt W noW noL := ⟨.inl rfl, .inl rfl, ⟨[], rfl, .inl rfl, fun _ h => by cases h⟩, .inl rfl, by decide, by decide, by decide, by decide, fun _ h => by cases h⟩
set_option maxRecDepth 100000 in
set_option maxHeartbeats 4000000 in
theorem empty_any (w : World) : Calls Tryd.prog 21 #[] w fun e w' => e = .returned (.agg #[.slice none 0 0, .slice none 0 0, .slice none 0 0, .slice none 0 0, .int .i64 1, .int .i64 1, .int .i64 1, .int .i64 1, .int .i64 1, .int .i64 1, .int .i64 1]) ∧ Below w.heap.size w w' := by
  go_enter Tryd.func21, Tryd.ntmps21
  go_wp2
  refine bodyPost_ret (v := .agg #[.slice none 0 0, .slice none 0 0, .slice none 0 0, .slice none 0 0, .int .i64 1, .int .i64 1, .int .i64 1, .int .i64 1, .int .i64 1, .int .i64 1, .int .i64 1]) (by simp [results, Tryd.results21, go_sem]) rfl ⟨rfl, ?_⟩
  repeat refine Below.setCell ?_ (by dsimp only; omega) _
  exact bself
theorem most_any (w : World) : Calls Tryd.prog 17 #[] w fun e w' => e = .returned (.int .i64 200) ∧ Below w.heap.size w w' := by
  go_enter Tryd.func17, Tryd.ntmps17
  go_wp2
  go_ret
  exact ⟨rfl, Below.refl _ _⟩
end Go.Proofs.YtpnnbihofoomeaaDoor

/-
  lockbarlaw08.wakes.
-/
namespace Go.Proofs.YtpnnbihofoomeaaDoor
open Go.RowKit Go.Shelf
attribute [local go_sem] Oper.semAt_some run_buildNone
attribute [local go_sem ↓ high] run_make11

set_option maxRecDepth 100000 in
set_option maxHeartbeats 32000000 in
theorem wakes8_any (w : World) (K : Kinds w) : Calls Tryd.prog 8 #[] w fun e w' => e = .returned (.bool true) ∧ Below w.heap.size w w' := by
  have HK := Lib.hid (fun W (h : Below w.heap.size w W) => K.below h)
  clear K
  go_enter Tryd.func8, Tryd.ntmps8
  go_wp2_with fail
  (with_reducible refine (empty_any _).mono ?_)
  rintro e w1 ⟨rfl, b1⟩
  have hput : Calls Tryd.prog 9 #[.agg #[.slice none 0 0, .slice none 0 0, .slice none 0 0, .slice none 0 0, .int .i64 1, .int .i64 1, .int .i64 1, .int .i64 1, .int .i64 1, .int .i64 1, .int .i64 1]] w1 (PutOf eL w1) := put_any eL noW w1 (lay_e _) (HK.out _ b1)
  have HP := Lib.hid hput
  clear hput
  go_wp2_with fail
  (with_reducible refine HP.out.mono ?_)
  intro e w2 hp
  obtain ⟨hc, b2⟩ := hp
  rcases hc with ⟨hr, _⟩ | ⟨_, v, rfl, hv⟩
  · exact absurd hr (by rw [e_right.1]; decide)
  rw [e_bytes] at hv
  obtain ⟨A, c, rfl⟩ := ownsV hv
  have hv' : w2.ownsRow w1.heap.size 5 1 (.slice A 11 c) 11 (z11.flatMap bEnc) := hv
  have hA := (sl_get (at_of_row (k := 1) (xs := z11) (fun _ => rfl) (by decide) hv')).1
  have H2 := Lib.hid (⟨hA, bchain b1 b2⟩ : _ ∧ Below w.heap.size w w2)
  clear hv hv' hA b1 b2 HP
  have ht : Calls Tryd.prog 11 #[.slice A 11 c] w2 _ := take_is e_take A 11 c w2 rfl H2.out.1 (by decide) z11_lt (HK.out _ H2.out.2)
  have HT := Lib.hid ht
  clear ht
  rw [show z11.length = 11 from rfl]
  go_wp2_with fail
  (with_reducible refine HT.out.mono ?_)
  rintro e w3 ⟨p, es, rfl, ho, b3⟩
  go_wp2_with fail
  have hX : BoxL ((w3.alloc (.cells (eL.cells p).toArray 29)).alloc (.cells #[.int .u8 0] 5)) w3.heap.size eL p ∧ Below w.heap.size w ((w3.alloc (.cells (eL.cells p).toArray 29)).alloc (.cells #[.int .u8 0] 5)) ∧ Below w2.heap.size w2 ((w3.alloc (.cells (eL.cells p).toArray 29)).alloc (.cells #[.int .u8 0] 5)) ∧ LayAt ((w3.alloc (.cells (eL.cells p).toArray 29)).alloc (.cells #[.int .u8 0] 5)) p eL ∧ At ((w3.alloc (.cells (eL.cells p).toArray 29)).alloc (.cells #[.int .u8 0] 5)) 1 bEnc (some ⟨w3.heap.size + 1, 0, none⟩) [0] :=
    ⟨(BoxL.make _ rfl).below bself, bchain (bchain (bchain H2.out.2 b3) bself) bself, bchain (bchain b3 bself) bself, (ho.lay.below bself).below bself, at_at (by simp) rfl⟩
  obtain ⟨X, hXX⟩ : ∃ X, X = (w3.alloc (.cells (eL.cells p).toArray 29)).alloc (.cells #[.int .u8 0] 5) := ⟨_, rfl⟩
  rw [← hXX] at hX
  unfold Lay.cells at hXX
  rw [← hXX]
  obtain ⟨n, hn⟩ : ∃ n, n = w3.heap.size := ⟨_, rfl⟩
  rw [← hn] at hX ⊢
  have H3 := Lib.hid hX
  clear hX hXX hn ho b3 HT
  have ht : Calls Tryd.prog 11 #[.slice (some ⟨n + 1, 0, none⟩) 1 1] X _ := take_is e_short _ 1 1 X rfl H3.out.2.2.2.2 (by decide) (by decide) (HK.out _ H3.out.2.1)
  have HT := Lib.hid ht
  clear ht
  (with_reducible refine HT.out.mono ?_)
  rintro e w4 ⟨p4, es4, rfl, ho4, b4⟩
  obtain ⟨i0, z0, hi, hz1, hs1, hs2, hs3⟩ := info_u8
  have HI := Lib.hid (⟨hi, hz1, hs1, hs2, hs3⟩ : _ ∧ _ ∧ _ ∧ _ ∧ _)
  clear hi hz1 hs1 hs2 hs3
  go_wp2_with (at_builtin; refine Hid.out ?_)
  refine Lib.hid ?_
  obtain ⟨Y, hY⟩ : ∃ Y, Y = w4.alloc (.cells (noL.cells p4).toArray 29) := ⟨_, rfl⟩
  have bY : Below X.heap.size X Y := by rw [hY]; exact bchain b4 bself
  have H4 := Lib.hid (⟨(H2.out.1.below H3.out.2.2.1).below bY, bchain H3.out.2.1 bY, H3.out.1.below bY, H3.out.2.2.2.1.below bY⟩ : At Y 1 bEnc A z11 ∧ Below w.heap.size w Y ∧ BoxL Y n eL p ∧ LayAt Y p eL)
  have hYs : Y.heap.size = w4.heap.size + 1 := by rw [hY]; simp
  unfold Lay.cells at hY
  rw [← hY]
  clear hY bY ho4 b4 HT
  rw [← hYs]
  obtain ⟨y, hy⟩ : ∃ y, y = w4.heap.size := ⟨_, rfl⟩
  rw [← hy] at hYs ⊢
  clear hy
  refine wpList_append_at (enc := bEnc) rfl _ _ _ rfl Y.heap.size 5 i0 z0 1 i0.bytes Tryd.underlying30 HI.out.1 HI.out.2.1 HI.out.2.2.1 rfl HI.out.2.2.2.1 (by decide) (.slice (some ⟨Y.heap.size, 0, none⟩) 0 0) 0 [] (by simp [go_sem]) (World.ownsRow_lit Y #[] 0 (Nat.le_refl _) (by unfold maxLen; omega) rfl) A 11 c z11 rfl (by simp [go_sem]) (H4.out.1.below bself) (fun _ => rfl) u8_one (by unfold maxLen; omega) (by have := HI.out.2.2.2.2; omega) (by simp) ?_
  intro v' V hr hg
  have bV : Below Y.heap.size Y V := bgrown (World.ownsRow_lit (base := Y.heap.size) (size := 1) Y #[] 0 (Nat.le_refl _) (by unfold maxLen; omega) rfl) hg bself (by simp)
  obtain ⟨A', d', rfl⟩ := ownsV hr
  have H5 := Lib.hid (⟨hr, bV, bV.size⟩ : V.ownsRow Y.heap.size 5 1 (.slice A' 11 d') 11 ([] ++ z11.flatMap bEnc) ∧ Below Y.heap.size Y V ∧ Y.heap.size ≤ V.heap.size)
  clear hr hg bV
  rw [show (0 + 11 : Nat) = 11 from rfl]
  go_wp2_with (at_builtin; refine Hid.out ?_)
  refine Lib.hid ?_
  refine wpList_append_at (enc := bEnc) rfl _ _ _ rfl Y.heap.size 5 i0 z0 1 i0.bytes Tryd.underlying30 HI.out.1 HI.out.2.1 HI.out.2.2.1 rfl HI.out.2.2.2.1 (by decide) (.slice A' 11 d') 11 ([] ++ z11.flatMap bEnc) (by simp [go_sem]) (owns_below H5.out.1 bself) (some ⟨V.heap.size, 0, none⟩) 1 1 [0] rfl (by simp [go_sem]) (at_one rfl) (fun _ => rfl) u8_one (by unfold maxLen; omega) (by have := HI.out.2.2.2.2; omega) (by have := H5.out.2.2; simp; omega) ?_
  intro v' U hr hg
  have bU : Below Y.heap.size V U := bgrown (owns_below H5.out.1 bself) hg (bself.mono H5.out.2.2) (by have := H5.out.2.2; simp; omega)
  obtain ⟨A2, d2, rfl⟩ := ownsV hr
  have hU : At U 1 bEnc A2 (z11 ++ [0]) := (sl_get (at_of_row (k := 1) (xs := z11 ++ [0]) (fun _ => rfl) (by decide) (show U.ownsRow Y.heap.size 5 1 (.slice A2 12 d2) 12 ((z11 ++ [0]).flatMap bEnc) by simpa [List.flatMap_append] using hr))).1
  rw [show (11 + 1 : Nat) = 12 from rfl]
  have bYU : Below Y.heap.size Y U := H5.out.2.1.trans bU
  have H6 := Lib.hid (⟨H4.out.1.below bYU, bchain H4.out.2.1 bYU, H4.out.2.2.1.below bYU, H4.out.2.2.2.below bYU, hU⟩ : At U 1 bEnc A z11 ∧ Below w.heap.size w U ∧ BoxL U n eL p ∧ LayAt U p eL ∧ At U 1 bEnc A2 (z11 ++ [0]))
  clear hr hg bU hU bYU H5 H4 H3 H2
  have ht : Calls Tryd.prog 11 #[.slice A2 12 d2] U _ := take_is e_more A2 12 d2 U rfl H6.out.2.2.2.2 (by decide) (by decide) (HK.out _ H6.out.2.1)
  have HT := Lib.hid ht
  clear ht
  go_wp2_with fail
  (with_reducible refine HT.out.mono ?_)
  rintro e w5 ⟨p5, es5, rfl, ho5, b5⟩
  obtain ⟨Z0, hZ0⟩ : ∃ Z0, Z0 = w5.alloc (.cells (noL.cells p5).toArray 29) := ⟨_, rfl⟩
  have bZ0 : Below U.heap.size U Z0 := by rw [hZ0]; exact bchain b5 bself
  have H7 := Lib.hid (⟨H6.out.1.below bZ0, bchain H6.out.2.1 bZ0, H6.out.2.2.1.below bZ0, H6.out.2.2.2.1.below bZ0⟩ : At Z0 1 bEnc A z11 ∧ Below w.heap.size w Z0 ∧ BoxL Z0 n eL p ∧ LayAt Z0 p eL)
  go_wp2_with fail
  unfold Lay.cells at hZ0
  rw [← hZ0]
  clear hZ0 bZ0 ho5 b5 HT H6
  have hput : Calls Tryd.prog 9 #[.agg #[.slice none 0 0, .slice none 0 0, .slice none 0 0, .slice none 0 0, .int .i64 0, .int .i64 0, .int .i64 0, .int .i64 0, .int .i64 0, .int .i64 0, .int .i64 0]] Z0 (PutOf noL Z0) := put_any noL noW Z0 (lay_no _) (HK.out _ H7.out.2.1)
  have HP := Lib.hid hput
  clear hput
  (with_reducible refine HP.out.mono ?_)
  intro e Z hp
  obtain ⟨hc, bZ⟩ := hp
  rcases hc with ⟨_, rfl⟩ | ⟨hr, _⟩
  rotate_left
  · exact absurd hr (by rw [e_right.2]; decide)
  have H8 := Lib.hid (⟨H7.out.1.below bZ, bchain H7.out.2.1 bZ, H7.out.2.2.1.below bZ, H7.out.2.2.2.below bZ⟩ : At Z 1 bEnc A z11 ∧ Below w.heap.size w Z ∧ BoxL Z n eL p ∧ LayAt Z p eL)
  clear bZ H7 HP HI
  go_upto_region 6 with fail
  have k1 : ∀ (V : World) (g : Nat), ClB Z V → At V 1 bEnc (some ⟨g, 0, none⟩) (List.replicate 11 0) → Calls Tryd.prog 13 #[.slice A 11 c, .slice (some ⟨g, 0, none⟩) 11 11] V fun e w' => e = .returned (.bool true) ∧ Below V.heap.size V w' := fun V g hC hg => (same8_any A (some ⟨g, 0, none⟩) 11 11 c 11 z11 z11 V rfl rfl (H8.out.1.below hC) hg z11_lt z11_lt).mono fun e w' ⟨h1, h2⟩ => ⟨h1, by rw [h2]; exact Below.refl _ _⟩
  have k2 : ∀ V : World, ClB Z V → Calls Tryd.prog 21 #[] V fun e w' => e = .returned (.agg #[.slice none 0 0, .slice none 0 0, .slice none 0 0, .slice none 0 0, .int .i64 1, .int .i64 1, .int .i64 1, .int .i64 1, .int .i64 1, .int .i64 1, .int .i64 1]) ∧ Below V.heap.size V w' := fun V _ => empty_any V
  have k3 : ∀ V : World, ClB Z V → Calls Tryd.prog 14 #[eL.val p, .agg #[.slice none 0 0, .slice none 0 0, .slice none 0 0, .slice none 0 0, .int .i64 1, .int .i64 1, .int .i64 1, .int .i64 1, .int .i64 1, .int .i64 1, .int .i64 1]] V fun e w' => e = .returned (.bool true) ∧ Below V.heap.size V w' := fun V hC => by
    have h := rSame_any eL eL p noW V (H8.out.2.2.2.below hC) (lay_e _)
    rwa [(same_eq_lay eL eL).2 rfl] at h
  have k4 : ∀ V : World, ClB Z V → Calls Tryd.prog 15 #[.agg #[.slice none 0 0, .slice none 0 0, .slice none 0 0, .slice none 0 0, .int .i64 1, .int .i64 1, .int .i64 1, .int .i64 1, .int .i64 1, .int .i64 1, .int .i64 1]] V fun e w' => e = .returned (.int .i64 11) ∧ Below V.heap.size V w' := fun V hC => by
    have h := size_any eL noW V (lay_e _) (HK.out _ (bchain H8.out.2.1 hC))
    rwa [show sizeL eL = 11 by unfold sizeL; rw [if_pos e_right.1, e_bytes]; rfl] at h
  have k5 : ∀ V : World, ClB Z V → Calls Tryd.prog 15 #[.agg #[.slice none 0 0, .slice none 0 0, .slice none 0 0, .slice none 0 0, .int .i64 0, .int .i64 0, .int .i64 0, .int .i64 0, .int .i64 0, .int .i64 0, .int .i64 0]] V fun e w' => e = .returned (.int .i64 0) ∧ Below V.heap.size V w' := fun V hC => by
    have h := size_any noL noW V (lay_no _) (HK.out _ (bchain H8.out.2.1 hC))
    rwa [show sizeL noL = 0 by unfold sizeL; rw [if_neg (by rw [e_right.2]; decide)]] at h
  have HC := Lib.hid (⟨k1, k2, k3, k4, k5, fun V (_ : ClB Z V) => most_any V⟩ : _ ∧ _ ∧ _ ∧ _ ∧ _ ∧ _)
  clear k1 k2 k3 k4 k5
  refine wp_region_rel_below [([(2, none)], none), ([(40, some 0)], none), ([(41, some 0)], none), ([(1, none), (42, some 0)], some (42, true)), ([(42, some 1)], some (42, true)), ([(43, some 1), (44, some 0), (42, some 2)], some (42, true)), ([(42, some 3), (45, some 0)], none), ([(46, some 0)], none), ([(4, none), (47, some 0)], some (47, true)), ([(48, some 0), (47, some 1)], some (47, true)), ([(47, some 2), (49, some 0)], none), ([(50, some 0)], none), ([(3, none), (51, some 0)], some (51, true)), ([(51, some 1)], some (51, true)), ([(52, some 1), (53, some 0), (51, some 2)], some (51, true)), ([(51, some 3), (54, some 0)], none), ([(55, some 0)], none), ([(6, none), (56, some 0)], some (56, true)), ([(57, some 0), (56, some 1)], some (56, true)), ([(56, some 2), (58, some 0)], none), ([(59, some 0)], none), ([(8, none), (60, some 0)], some (60, true)), ([(61, some 0), (60, some 1)], some (60, true)), ([(60, some 2), (62, some 0)], none), ([(63, some 0)], none), ([(10, none), (64, some 0)], some (64, true)), ([(65, some 0), (64, some 1)], some (64, true)), ([(64, some 2), (66, some 0)], none), ([(67, some 0)], none), ([(68, some 0)], some (68, true)), ([(69, some 0), (68, some 1)], some (68, true)), ([(70, some 0), (68, some 2)], some (68, true)), ([(68, some 3), (71, some 0)], none), ([(72, some 0)], none), ([(73, some 0)], some (73, true)), ([(74, some 0), (73, some 1)], some (73, true)), ([(75, some 0), (73, some 2)], some (73, true)), ([(73, some 3), (76, some 0)], none), ([(77, some 0)], none), ([(78, some 0)], some (78, true)), ([(79, some 0), (78, some 1)], some (78, true)), ([(78, some 2), (80, some 0)], none), ([(81, some 0)], none)] [(0, 0)] (by kernel_rfl) (by kernel_rfl) ?_
  refine ob_det (c := .int .i64 0) ?_ ?_
  · intro ρ W hk hC
    simp only [seen, obOp]
    rintro h2
    replace h2 : ρ (.tmp 2) = .int .i64 0 := h2.trans rfl
    exact rel_value (by simp [go_sem, h2]) hC
  refine ob_det (c := .bool true) ?_ ?_
  · intro ρ W hk hC
    simp only [seen, obOp, List.getD_cons_zero]
    rintro h40
    exact rel_value (by simp [go_sem, h40, hk.const]) hC
  refine ob_det (c := .bool true) ?_ ?_
  · intro ρ W hk hC
    simp only [seen, obOp, List.getD_cons_zero]
    rintro h41
    exact rel_value (by simp [go_sem, h41]) hC
  refine ob_det (c := .slice A 11 c) ?_ ?_
  · intro ρ W hk hC
    simp only [seen, obOp, List.getD_cons_zero]
    rintro h1 h42
    replace h1 : ρ (.tmp 1) = .slice A 11 c := h1.trans rfl
    refine ⟨fun _ => ?_, fun hn => absurd h42 hn⟩
    exact rel_value (by simp [go_sem, h1]) hC
  refine ⟨NewZ, fun _ _ _ h k => h.step k, ?_, ?_⟩
  · intro ρ W hk hC
    simp only [seen, obOp, List.getD_cons_zero, List.getD_cons_succ]
    rintro h42
    refine ⟨fun _ => ?_, fun hn => absurd h42 hn⟩
    exact rel_newZ (by simp [go_sem, hk.const]) hC
  refine ob_det (c := .bool true) ?_ ?_
  · intro ρ W hk hC
    simp only [seen, obOp, List.getD_cons_zero, List.getD_cons_succ]
    rintro h43 ⟨g, h44, hg⟩ h42
    refine ⟨fun _ => ?_, fun hn => absurd h42 hn⟩
    exact rel_call (f := 13) (args := #[.slice A 11 c, .slice (some ⟨g, 0, none⟩) 11 11]) (by simp [go_sem, h43, h44, hk.func]) hC (HC.out.1 W g hC hg)
  refine ob_det (c := .bool true) ?_ ?_
  · intro ρ W hk hC
    simp only [seen, obOp, List.getD_cons_zero, List.getD_cons_succ]
    rintro h42 h45
    exact rel_value (by simp [go_sem, h42, h45, hk.const]) hC
  refine ob_det (c := .bool true) ?_ ?_
  · intro ρ W hk hC
    simp only [seen, obOp, List.getD_cons_zero]
    rintro h46
    exact rel_value (by simp [go_sem, h46]) hC
  refine ob_det (c := .int .i64 0) ?_ ?_
  · intro ρ W hk hC
    simp only [seen, obOp, List.getD_cons_zero]
    rintro h4 h47
    replace h4 : ρ (.tmp 4) = .int .i64 0 := h4.trans rfl
    refine ⟨fun _ => ?_, fun hn => absurd h47 hn⟩
    exact rel_value (by simp [go_sem, h4]) hC
  refine ob_det (c := .bool true) ?_ ?_
  · intro ρ W hk hC
    simp only [seen, obOp, List.getD_cons_zero, List.getD_cons_succ]
    rintro h48 h47
    refine ⟨fun _ => ?_, fun hn => absurd h47 hn⟩
    exact rel_value (by simp [go_sem, h48, hk.const]) hC
  refine ob_det (c := .bool true) ?_ ?_
  · intro ρ W hk hC
    simp only [seen, obOp, List.getD_cons_zero, List.getD_cons_succ]
    rintro h47 h49
    exact rel_value (by simp [go_sem, h47, h49, hk.const]) hC
  refine ob_det (c := .bool true) ?_ ?_
  · intro ρ W hk hC
    simp only [seen, obOp, List.getD_cons_zero]
    rintro h50
    exact rel_value (by simp [go_sem, h50]) hC
  refine ob_det (c := eL.val p) ?_ ?_
  · intro ρ W hk hC
    simp only [seen, obOp, List.getD_cons_zero]
    rintro h3 h51
    replace h3 : ρ (.tmp 3) = .pointer (some ⟨n, 0, none⟩) := h3.trans rfl
    refine ⟨fun _ => ?_, fun hn => absurd h51 hn⟩
    exact rel_value (runLoad h3 (H8.out.2.2.1.below hC)) hC
  refine ob_det (c := .agg #[.slice none 0 0, .slice none 0 0, .slice none 0 0, .slice none 0 0, .int .i64 1, .int .i64 1, .int .i64 1, .int .i64 1, .int .i64 1, .int .i64 1, .int .i64 1]) ?_ ?_
  · intro ρ W hk hC
    simp only [seen, obOp, List.getD_cons_zero, List.getD_cons_succ]
    rintro h51
    refine ⟨fun _ => ?_, fun hn => absurd h51 hn⟩
    exact rel_call (f := 21) (args := #[]) (by simp [go_sem, hk.func]) hC (HC.out.2.1 W hC)
  refine ob_det (c := .bool true) ?_ ?_
  · intro ρ W hk hC
    simp only [seen, obOp, List.getD_cons_zero, List.getD_cons_succ]
    rintro h52 h53 h51
    refine ⟨fun _ => ?_, fun hn => absurd h51 hn⟩
    exact rel_call (f := 14) (args := #[eL.val p, .agg #[.slice none 0 0, .slice none 0 0, .slice none 0 0, .slice none 0 0, .int .i64 1, .int .i64 1, .int .i64 1, .int .i64 1, .int .i64 1, .int .i64 1, .int .i64 1]]) (by simp [go_sem, h52, h53, hk.func]) hC (HC.out.2.2.1 W hC)
  refine ob_det (c := .bool true) ?_ ?_
  · intro ρ W hk hC
    simp only [seen, obOp, List.getD_cons_zero, List.getD_cons_succ]
    rintro h51 h54
    exact rel_value (by simp [go_sem, h51, h54, hk.const]) hC
  refine ob_det (c := .bool true) ?_ ?_
  · intro ρ W hk hC
    simp only [seen, obOp, List.getD_cons_zero]
    rintro h55
    exact rel_value (by simp [go_sem, h55]) hC
  refine ob_det (c := .int .i64 40) ?_ ?_
  · intro ρ W hk hC
    simp only [seen, obOp, List.getD_cons_zero]
    rintro h6 h56
    replace h6 : ρ (.tmp 6) = .int .i64 40 := h6.trans rfl
    refine ⟨fun _ => ?_, fun hn => absurd h56 hn⟩
    exact rel_value (by simp [go_sem, h6]) hC
  refine ob_det (c := .bool true) ?_ ?_
  · intro ρ W hk hC
    simp only [seen, obOp, List.getD_cons_zero, List.getD_cons_succ]
    rintro h57 h56
    refine ⟨fun _ => ?_, fun hn => absurd h56 hn⟩
    exact rel_value (by simp [go_sem, h57, hk.const]) hC
  refine ob_det (c := .bool true) ?_ ?_
  · intro ρ W hk hC
    simp only [seen, obOp, List.getD_cons_zero, List.getD_cons_succ]
    rintro h56 h58
    exact rel_value (by simp [go_sem, h56, h58, hk.const]) hC
  refine ob_det (c := .bool true) ?_ ?_
  · intro ρ W hk hC
    simp only [seen, obOp, List.getD_cons_zero]
    rintro h59
    exact rel_value (by simp [go_sem, h59]) hC
  refine ob_det (c := .int .i64 41) ?_ ?_
  · intro ρ W hk hC
    simp only [seen, obOp, List.getD_cons_zero]
    rintro h8 h60
    replace h8 : ρ (.tmp 8) = .int .i64 41 := h8.trans rfl
    refine ⟨fun _ => ?_, fun hn => absurd h60 hn⟩
    exact rel_value (by simp [go_sem, h8]) hC
  refine ob_det (c := .bool true) ?_ ?_
  · intro ρ W hk hC
    simp only [seen, obOp, List.getD_cons_zero, List.getD_cons_succ]
    rintro h61 h60
    refine ⟨fun _ => ?_, fun hn => absurd h60 hn⟩
    exact rel_value (by simp [go_sem, h61, hk.const]) hC
  refine ob_det (c := .bool true) ?_ ?_
  · intro ρ W hk hC
    simp only [seen, obOp, List.getD_cons_zero, List.getD_cons_succ]
    rintro h60 h62
    exact rel_value (by simp [go_sem, h60, h62, hk.const]) hC
  refine ob_det (c := .bool true) ?_ ?_
  · intro ρ W hk hC
    simp only [seen, obOp, List.getD_cons_zero]
    rintro h63
    exact rel_value (by simp [go_sem, h63]) hC
  refine ob_det (c := .int .i64 60) ?_ ?_
  · intro ρ W hk hC
    simp only [seen, obOp, List.getD_cons_zero]
    rintro h10 h64
    replace h10 : ρ (.tmp 10) = .int .i64 60 := h10.trans rfl
    refine ⟨fun _ => ?_, fun hn => absurd h64 hn⟩
    exact rel_value (by simp [go_sem, h10]) hC
  refine ob_det (c := .bool true) ?_ ?_
  · intro ρ W hk hC
    simp only [seen, obOp, List.getD_cons_zero, List.getD_cons_succ]
    rintro h65 h64
    refine ⟨fun _ => ?_, fun hn => absurd h64 hn⟩
    exact rel_value (by simp [go_sem, h65, hk.const]) hC
  refine ob_det (c := .bool true) ?_ ?_
  · intro ρ W hk hC
    simp only [seen, obOp, List.getD_cons_zero, List.getD_cons_succ]
    rintro h64 h66
    exact rel_value (by simp [go_sem, h64, h66, hk.const]) hC
  refine ob_det (c := .bool true) ?_ ?_
  · intro ρ W hk hC
    simp only [seen, obOp, List.getD_cons_zero]
    rintro h67
    exact rel_value (by simp [go_sem, h67]) hC
  refine ob_det (c := .agg #[.slice none 0 0, .slice none 0 0, .slice none 0 0, .slice none 0 0, .int .i64 1, .int .i64 1, .int .i64 1, .int .i64 1, .int .i64 1, .int .i64 1, .int .i64 1]) ?_ ?_
  · intro ρ W hk hC
    simp only [seen, obOp, List.getD_cons_zero]
    rintro h68
    refine ⟨fun _ => ?_, fun hn => absurd h68 hn⟩
    exact rel_call (f := 21) (args := #[]) (by simp [go_sem, hk.func]) hC (HC.out.2.1 W hC)
  refine ob_det (c := .int .i64 11) ?_ ?_
  · intro ρ W hk hC
    simp only [seen, obOp, List.getD_cons_zero, List.getD_cons_succ]
    rintro h69 h68
    refine ⟨fun _ => ?_, fun hn => absurd h68 hn⟩
    exact rel_call (f := 15) (args := #[.agg #[.slice none 0 0, .slice none 0 0, .slice none 0 0, .slice none 0 0, .int .i64 1, .int .i64 1, .int .i64 1, .int .i64 1, .int .i64 1, .int .i64 1, .int .i64 1]]) (by simp [go_sem, h69, hk.func]) hC (HC.out.2.2.2.1 W hC)
  refine ob_det (c := .bool true) ?_ ?_
  · intro ρ W hk hC
    simp only [seen, obOp, List.getD_cons_zero, List.getD_cons_succ]
    rintro h70 h68
    refine ⟨fun _ => ?_, fun hn => absurd h68 hn⟩
    exact rel_value (by simp [go_sem, h70, hk.const]) hC
  refine ob_det (c := .bool true) ?_ ?_
  · intro ρ W hk hC
    simp only [seen, obOp, List.getD_cons_zero, List.getD_cons_succ]
    rintro h68 h71
    exact rel_value (by simp [go_sem, h68, h71, hk.const]) hC
  refine ob_det (c := .bool true) ?_ ?_
  · intro ρ W hk hC
    simp only [seen, obOp, List.getD_cons_zero]
    rintro h72
    exact rel_value (by simp [go_sem, h72]) hC
  refine ob_det (c := .agg #[.slice none 0 0, .slice none 0 0, .slice none 0 0, .slice none 0 0, .int .i64 0, .int .i64 0, .int .i64 0, .int .i64 0, .int .i64 0, .int .i64 0, .int .i64 0]) ?_ ?_
  · intro ρ W hk hC
    simp only [seen, obOp, List.getD_cons_zero]
    rintro h73
    refine ⟨fun _ => ?_, fun hn => absurd h73 hn⟩
    exact rel_value (by simp [go_sem]) hC
  refine ob_det (c := .int .i64 0) ?_ ?_
  · intro ρ W hk hC
    simp only [seen, obOp, List.getD_cons_zero, List.getD_cons_succ]
    rintro h74 h73
    refine ⟨fun _ => ?_, fun hn => absurd h73 hn⟩
    exact rel_call (f := 15) (args := #[.agg #[.slice none 0 0, .slice none 0 0, .slice none 0 0, .slice none 0 0, .int .i64 0, .int .i64 0, .int .i64 0, .int .i64 0, .int .i64 0, .int .i64 0, .int .i64 0]]) (by simp [go_sem, h74, hk.func]) hC (HC.out.2.2.2.2.1 W hC)
  refine ob_det (c := .bool true) ?_ ?_
  · intro ρ W hk hC
    simp only [seen, obOp, List.getD_cons_zero, List.getD_cons_succ]
    rintro h75 h73
    refine ⟨fun _ => ?_, fun hn => absurd h73 hn⟩
    exact rel_value (by simp [go_sem, h75, hk.const]) hC
  refine ob_det (c := .bool true) ?_ ?_
  · intro ρ W hk hC
    simp only [seen, obOp, List.getD_cons_zero, List.getD_cons_succ]
    rintro h73 h76
    exact rel_value (by simp [go_sem, h73, h76, hk.const]) hC
  refine ob_det (c := .bool true) ?_ ?_
  · intro ρ W hk hC
    simp only [seen, obOp, List.getD_cons_zero]
    rintro h77
    exact rel_value (by simp [go_sem, h77]) hC
  refine ob_det (c := .int .i64 200) ?_ ?_
  · intro ρ W hk hC
    simp only [seen, obOp, List.getD_cons_zero]
    rintro h78
    refine ⟨fun _ => ?_, fun hn => absurd h78 hn⟩
    exact rel_call (f := 17) (args := #[]) (by simp [go_sem, hk.func]) hC (HC.out.2.2.2.2.2 W hC)
  refine ob_det (c := .bool true) ?_ ?_
  · intro ρ W hk hC
    simp only [seen, obOp, List.getD_cons_zero, List.getD_cons_succ]
    rintro h79 h78
    refine ⟨fun _ => ?_, fun hn => absurd h78 hn⟩
    exact rel_value (by simp [go_sem, h79, hk.const]) hC
  refine ob_det (c := .bool true) ?_ ?_
  · intro ρ W hk hC
    simp only [seen, obOp, List.getD_cons_zero, List.getD_cons_succ]
    rintro h78 h80
    exact rel_value (by simp [go_sem, h78, h80, hk.const]) hC
  refine ob_det (c := .bool true) ?_ ?_
  · intro ρ W hk hC
    simp only [seen, obOp, List.getD_cons_zero]
    rintro h81
    exact rel_value (by simp [go_sem, h81]) hC
  intro vs w6 hC6
  simp only [endSeen, List.getD_cons_zero]
  intro h0
  simp only [writeAll, List.setIfInBounds_toArray, List.set_cons_zero, List.set_cons_succ, h0]
  go_wp2
  go_ret
  exact ⟨rfl, bchain H8.out.2.1 hC6⟩
end Go.Proofs.YtpnnbihofoomeaaDoor

/-
  lockbarref06.Great: where it says no, the layout is small.
-/
namespace Go.Proofs.YtpnnbihofoomeaaDoor
open Go.RowKit Go.Shelf

def FewG (L : Lay) : Prop := L.secs.length ≤ 40 ∧ L.sigs.length ≤ 30 ∧ L.exits.length ≤ 30 ∧ L.flanks.length ≤ 40 ∧ ∀ x ∈ L.exits, x.over.length ≤ 20
def GreatOf (L : Lay) (w : World) (e : Ending) (w' : World) : Prop := ∃ b : Bool, e = .returned (.bool b) ∧ (b = false → FewG L) ∧ Below w.heap.size w w'
theorem great_yes {L : Lay} {w w' : World} (h : Below w.heap.size w w') : GreatOf L w (.returned (.bool true)) w' := ⟨true, rfl, fun h => (by cases h), h⟩
theorem great_no {L : Lay} {w w' : World} (hf : FewG L) (h : Below w.heap.size w w') : GreatOf L w (.returned (.bool false)) w' := ⟨false, rfl, fun _ => hf, h⟩

set_option maxRecDepth 100000 in
set_option maxHeartbeats 4000000 in
theorem rGreat_of (L : Lay) (p : Where) (w : World) (hL : LayAt w p L) : Calls Tryd.prog 7 #[L.val p] w (GreatOf L w) := by
  have hm0 : L.secs.length ≤ 9223372036854775807 := Nat.le_trans hL.l0.1 hL.l0.2
  have hm1 : L.sigs.length ≤ 9223372036854775807 := Nat.le_trans hL.l1.1 hL.l1.2
  have hm : L.exits.length ≤ 9223372036854775807 := Nat.le_trans hL.l2.1 hL.l2.2
  have hm3 : L.flanks.length ≤ 9223372036854775807 := Nat.le_trans hL.l3.1 hL.l3.2
  obtain ⟨a0, a1, a2, a3, p0, p1, p2, p3⟩ := p
  have HL := Lib.hid hL
  clear hL
  unfold Lay.val
  go_enter Tryd.func7, Tryd.ntmps7
  go_wp2_with fail
  go_loop [3] (fun s3 => ∃ n : Nat, n ≤ L.exits.length ∧ n ≤ 31 ∧ s3 = .int .i64 n ∧ Hid (∀ (j : Nat) (x : Ext'), j < n → L.exits[j]? = some x → x.over.length ≤ 20)) (fun s3 => L.exits.length - (intOf s3).toNat)
  case atStart => exact ⟨0, Nat.zero_le _, by omega, rfl, Lib.hid (fun j x hj => absurd hj (Nat.not_lt_zero _))⟩
  case round =>
    obtain ⟨n, hn, hn31, rfl, HJ⟩ := hrel
    by_cases hlt : n < L.exits.length ∧ n ≤ 30
    · obtain ⟨hlt, h30⟩ := hlt
      obtain ⟨es, hes, hAt, hov⟩ := HL.out.exits
      have hlen : es.length = L.exits.length := by rw [← hes, List.length_map]
      obtain ⟨b, off, hAe, h0, hrow⟩ := hAt.get (j := n) (by omega)
      subst hAe
      obtain ⟨y, hy⟩ : ∃ y, es[n]? = some y := ⟨es[n]'(by omega), List.getElem?_eq_getElem (by omega)⟩
      have g2 := hrow n y hy 2 _ rfl
      have hye : L.exits[n]? = some y.1 := by rw [← hes, List.getElem?_map, hy]; rfl
      obtain ⟨A, cap, e2, hcap, hmax, _⟩ := hov y (List.mem_of_getElem? hy)
      rw [e2] at g2
      obtain ⟨m, hmv⟩ : ∃ m, m = y.1.over.length := ⟨_, rfl⟩
      have next : m ≤ 20 → Hid (∀ (j : Nat) (x : Ext'), j < n + 1 → L.exits[j]? = some x → x.over.length ≤ 20) := fun h => Lib.hid fun j x hj hx => by
        by_cases e : j = n
        · subst e
          rw [hye] at hx
          cases hx
          omega
        · exact HJ.out j x (by omega) hx
      have NX := Lib.hid next
      rw [← hmv] at g2 hcap
      have hmm : m ≤ 9223372036854775807 := Nat.le_trans hcap hmax
      clear next hrow hy hes hAt hov hlen e2 hcap hmax hmv HL hye
      have d30 : decide ((n : Int) ≤ 30) = true := decide_eq_true (by omega)
      by_cases h20 : 20 < m
      · have d20 : decide ((20 : Int) < (m : Int)) = true := decide_eq_true (by omega)
        go_wp2
        go_ret
        exact great_yes bself
      · have d20 : decide ((20 : Int) < (m : Int)) = false := decide_eq_false (by omega)
        go_wp2
        go_round
        case rel => exact ⟨n + 1, by omega, by omega, by go_num, NX.out (by omega)⟩
        case measure => simp [intOf]; omega
    · have hstop : (n < L.exits.length ∧ 30 < n) ∨ n = L.exits.length := by omega
      clear hlt HL
      have few : L.secs.length ≤ 40 → L.sigs.length ≤ 30 → L.exits.length ≤ 30 → L.flanks.length ≤ 40 → FewG L := fun h0 h1 h2 h3 => ⟨h0, h1, h2, h3, fun x hx => by
        obtain ⟨j, hj⟩ := List.mem_iff_getElem?.1 hx
        have hjl := (List.getElem?_eq_some_iff.1 hj).1
        exact HJ.out j x (by omega) hj⟩
      have FW := Lib.hid few
      clear few
      have hts : decide (n < L.exits.length) = false ∨ (decide (n < L.exits.length) = true ∧ decide ((n : Int) ≤ 30) = false) := by
        rcases hstop with ⟨h1, h2⟩ | h1
        · exact .inr ⟨decide_eq_true (by omega), decide_eq_false (by omega)⟩
        · exact .inl (decide_eq_false (by omega))
      have h0 : (40 : Int) < L.secs.length ∨ (L.secs.length ≤ 40 ∧ (30 : Int) < L.sigs.length) ∨ (L.secs.length ≤ 40 ∧ L.sigs.length ≤ 30 ∧ (30 : Int) < L.exits.length) ∨ (L.secs.length ≤ 40 ∧ L.sigs.length ≤ 30 ∧ L.exits.length ≤ 30 ∧ (40 : Int) < L.flanks.length) ∨ (L.secs.length ≤ 40 ∧ L.sigs.length ≤ 30 ∧ L.exits.length ≤ 30 ∧ L.flanks.length ≤ 40) := by omega
      clear hstop hn hn31 HJ
      rcases h0 with h0 | ⟨h0, h1⟩ | ⟨h0, h1, h2⟩ | ⟨h0, h1, h2, h3⟩ | ⟨h0, h1, h2, h3⟩
      · have e0 : decide ((40 : Int) < (L.secs.length : Int)) = true := decide_eq_true (by omega)
        clear h0 FW
        rcases hts with t0 | ⟨t0, t1⟩
        all_goals
          go_wp2
          go_ret
          exact great_yes bself
      · have e0 : decide ((40 : Int) < (L.secs.length : Int)) = false := decide_eq_false (by omega)
        have e1 : decide ((30 : Int) < (L.sigs.length : Int)) = true := decide_eq_true (by omega)
        clear h0 h1 FW
        rcases hts with t0 | ⟨t0, t1⟩
        all_goals
          go_wp2
          go_ret
          exact great_yes bself
      · have e0 : decide ((40 : Int) < (L.secs.length : Int)) = false := decide_eq_false (by omega)
        have e1 : decide ((30 : Int) < (L.sigs.length : Int)) = false := decide_eq_false (by omega)
        have e2 : decide ((30 : Int) < (L.exits.length : Int)) = true := decide_eq_true (by omega)
        clear h0 h1 h2 FW
        rcases hts with t0 | ⟨t0, t1⟩
        all_goals
          go_wp2
          go_ret
          exact great_yes bself
      · have e0 : decide ((40 : Int) < (L.secs.length : Int)) = false := decide_eq_false (by omega)
        have e1 : decide ((30 : Int) < (L.sigs.length : Int)) = false := decide_eq_false (by omega)
        have e2 : decide ((30 : Int) < (L.exits.length : Int)) = false := decide_eq_false (by omega)
        have e3 : decide ((40 : Int) < (L.flanks.length : Int)) = true := decide_eq_true (by omega)
        clear h0 h1 h2 h3 FW
        rcases hts with t0 | ⟨t0, t1⟩
        all_goals
          go_wp2
          go_ret
          exact great_yes bself
      · have e0 : decide ((40 : Int) < (L.secs.length : Int)) = false := decide_eq_false (by omega)
        have e1 : decide ((30 : Int) < (L.sigs.length : Int)) = false := decide_eq_false (by omega)
        have e2 : decide ((30 : Int) < (L.exits.length : Int)) = false := decide_eq_false (by omega)
        have e3 : decide ((40 : Int) < (L.flanks.length : Int)) = false := decide_eq_false (by omega)
        have FW2 := Lib.hid (FW.out h0 h1 h2 h3)
        clear h0 h1 h2 h3 FW
        rcases hts with t0 | ⟨t0, t1⟩
        all_goals
          go_wp2
          go_ret
          exact great_no FW2.out bself
end Go.Proofs.YtpnnbihofoomeaaDoor

/-
  The document's Own of a layout: each slice is a row of its own, and each exit's overlap.
-/
namespace Go.Proofs.YtpnnbihofoomeaaDoor
open Go.RowKit Go.Shelf

/-- Own's two variables: the layout at hand (cells cs), and what it will tell (nothing yet). -/
structure BSt (w W : World) (cs : List Value) : Prop where
  below : Below w.heap.size w W
  bx : W.heap[w.heap.size]? = some (.cells cs.toArray 29 (0, 0))
  zr : W.heap[w.heap.size + 1]? = some (.cells zeroLay.toArray 29 (0, 0))
theorem BSt.lt {w W : World} {cs : List Value} (h : BSt w W cs) : w.heap.size + 1 < W.heap.size := (Array.getElem?_eq_some_iff.1 h.zr).1
theorem BSt.next {w W W' : World} {cs : List Value} (h : BSt w W cs) (hb : Below W.heap.size W W') : BSt w W' cs :=
  ⟨bchain h.below hb, (hb.block _ (by have := h.lt; omega)).trans h.bx, (hb.block _ h.lt).trans h.zr⟩
theorem BSt.set {w W : World} {cs cs' : List Value} {i : Nat} {v : Value} (h : BSt w W cs) (e : cs.set i v = cs') : BSt w (W.setCell ⟨w.heap.size, i, none⟩ v) cs' := by
  refine ⟨h.below.setCell (p := ⟨w.heap.size, i, none⟩) (Nat.le_refl _) _, ?_, (Below.heap_setCell _ _ _ _ (by dsimp only; omega)).trans h.zr⟩
  rw [heap_setCell_same _ _ _ _ _ _ h.bx, ← e]
  simp
theorem BSt.cell {w W : World} {cs : List Value} (h : BSt w W cs) {i : Nat} {v : Value} (e : cs[i]? = some v) : W.cell? ⟨w.heap.size, i, none⟩ = some v := by
  simp [World.cell?, h.bx, e]
theorem BSt.zero {w W : World} {cs : List Value} (h : BSt w W cs) {i : Nat} {v : Value} (e : zeroLay[i]? = some v) : W.cell? ⟨w.heap.size + 1, i, none⟩ = some v := by
  simp [World.cell?, h.zr, e]
theorem BSt.fz {w W : World} {cs : List Value} (h : BSt w W cs) (i : Nat) : W.frozen? ⟨w.heap.size, i, none⟩ = false := frozen_of_row _ _ _ _ _ h.bx
theorem BSt.fz1 {w W : World} {cs : List Value} (h : BSt w W cs) (i : Nat) : W.frozen? ⟨w.heap.size + 1, i, none⟩ = false := frozen_of_row _ _ _ _ _ h.zr
theorem BSt.keep {w W : World} {cs : List Value} (h : BSt w W cs) {i : Nat} {v : Value} {base : Nat} {e : TypeId} {size : Nat} {sv : Value} {n : Nat} {xs : List Value} (hr : W.ownsRow base e size sv n xs) (he : 29 ≠ e) : (W.setCell ⟨w.heap.size, i, none⟩ v).ownsRow base e size sv n xs :=
  owns_kept hr (set_others W ⟨w.heap.size, i, none⟩ v) (fun cur hc => by rw [h.bx] at hc; cases hc; exact he rfl)
theorem BSt.keepO {w W : World} {cs : List Value} (h : BSt w W cs) {i : Nat} {v : Value} {B : Nat} {p : Where} {L : Lay} {es : List (Ext' × Value)} (hr : Owned B W p L es) : Owned B (W.setCell ⟨w.heap.size, i, none⟩ v) p L es :=
  hr.kept (set_others W ⟨w.heap.size, i, none⟩ v) h.bx (by decide) (by decide) (by decide) (by decide) (by decide)
theorem grown_below {X W' : World} {o : Obj} {c : Nat} (hg : (X.alloc o).grownBy W' (Value.slice (some ⟨X.heap.size, 0, none⟩) 0 c).ownBlock) : Below X.heap.size X W' :=
  (bself (w := X) (o := o)).grown hg (by simp) (fun k e => by
    have e2 : X.heap.size = k := by simpa [Value.ownBlock] using e
    omega)

set_option maxRecDepth 100000 in
set_option maxHeartbeats 16000000 in
theorem rOwn_any (L : Lay) (p : Where) (w : World) (hL : LayAt w p L) (hf : Few L) : Calls Tryd.prog 20 #[L.val p] w fun e w' => ∃ p' es, e = .returned (L.val p') ∧ Owned w.heap.size w' p' L es ∧ Below w.heap.size w w' := by
  obtain ⟨es, hes, hAt, hov⟩ := hL.exits
  have hlen : es.length = L.exits.length := by rw [← hes, List.length_map]
  obtain ⟨a0, a1, a2, a3, p0, p1, p2, p3⟩ := p
  dsimp only at hAt
  unfold Lay.val
  have HE := Lib.hid (⟨hes, hAt, hov, hlen⟩ : _ ∧ _ ∧ _ ∧ _)
  have HF := Lib.hid hf
  have HL := Lib.hid hL
  clear hes hAt hov hlen hf hL
  go_enter Tryd.func20, Tryd.ntmps20
  go_upto_region 1 with fail
  obtain ⟨X, hX⟩ : ∃ X, X = (w.alloc (.cells #[.slice a0 L.secs.length p0, .slice a1 L.sigs.length p1, .slice a2 L.exits.length p2, .slice a3 L.flanks.length p3, .int .i64 L.t0, .int .i64 L.t1, .int .i64 L.t2, .int .i64 L.t3, .int .i64 L.t4, .int .i64 L.t5, .int .i64 L.t6] 29)).alloc (.cells #[.slice none 0 0, .slice none 0 0, .slice none 0 0, .slice none 0 0, .int .i64 0, .int .i64 0, .int .i64 0, .int .i64 0, .int .i64 0, .int .i64 0, .int .i64 0] 29) := ⟨_, rfl⟩
  have HB : Hid (BSt w X [.slice a0 L.secs.length p0, .slice a1 L.sigs.length p1, .slice a2 L.exits.length p2, .slice a3 L.flanks.length p3, .int .i64 L.t0, .int .i64 L.t1, .int .i64 L.t2, .int .i64 L.t3, .int .i64 L.t4, .int .i64 L.t5, .int .i64 L.t6]) := Lib.hid (by
    rw [hX]
    refine ⟨bchain bself bself, ?_, ?_⟩
    · rw [(bself (w := w.alloc _)).block _ (by simp)]
      exact World.alloc_heap_new _ _
    · have := World.alloc_heap_new (w.alloc (.cells #[.slice a0 L.secs.length p0, .slice a1 L.sigs.length p1, .slice a2 L.exits.length p2, .slice a3 L.flanks.length p3, .int .i64 L.t0, .int .i64 L.t1, .int .i64 L.t2, .int .i64 L.t3, .int .i64 L.t4, .int .i64 L.t5, .int .i64 L.t6] 29)) (.cells #[.slice none 0 0, .slice none 0 0, .slice none 0 0, .slice none 0 0, .int .i64 0, .int .i64 0, .int .i64 0, .int .i64 0, .int .i64 0, .int .i64 0, .int .i64 0] 29)
      simpa [zeroLay] using this)
  rw [← hX]
  clear hX
  go_upto_region 1 with fail
  go_cut [] (fun w' => ∃ (A0 : Option Addr) (d0 : Nat), Hid (BSt w w' [.slice A0 L.secs.length d0, .slice a1 L.sigs.length p1, .slice a2 L.exits.length p2, .slice a3 L.flanks.length p3, .int .i64 L.t0, .int .i64 L.t1, .int .i64 L.t2, .int .i64 L.t3, .int .i64 L.t4, .int .i64 L.t5, .int .i64 L.t6]) ∧ Hid (w'.ownsRow w.heap.size 69 11 (.slice A0 L.secs.length d0) L.secs.length (L.secs.flatMap Sec.enc)))
  case first =>
    obtain ⟨i0, z0, hi, hz, hs1, hs2, hs3⟩ := info_Section
    have HI := Lib.hid (⟨hi, hz, hs1, hs2, hs3⟩ : _ ∧ _ ∧ _ ∧ _ ∧ _)
    have k0 : X.cell? ⟨w.heap.size, 0, none⟩ = some (.slice a0 L.secs.length p0) := HB.out.cell rfl
    have g1 : w.heap.size < X.heap.size := by have := HB.out.lt; omega
    clear hi hz hs1 hs2 hs3
    go_wp2_with (at_builtin; refine Hid.out ?_)
    refine Lib.hid ?_
    refine wpList_append_at (enc := Sec.enc) rfl _ _ _ rfl w.heap.size 69 i0 z0 11 i0.bytes Tryd.underlying22 HI.out.1 HI.out.2.1 HI.out.2.2.1 rfl HI.out.2.2.2.1 (by decide) (.slice (some ⟨X.heap.size, 0, none⟩) 0 0) 0 [] rfl (World.ownsRow_made X #[] 0 (by omega) (by unfold maxLen; omega) (by simp)) a0 L.secs.length p0 L.secs rfl rfl (HL.out.secs.below (bchain HB.out.below bself)) (fun _ => rfl) sec_one (by have := HF.out.1; unfold maxLen; omega) ?_ (by simp; omega) ?_
    · have h2 := Nat.mul_le_mul HF.out.1 HI.out.2.2.2.2
      rw [Nat.zero_add]
      omega
    intro v' V hr hg
    obtain ⟨A0, d0, rfl⟩ := ownsV hr
    rw [Nat.zero_add, List.nil_append] at hr
    rw [Nat.zero_add]
    have hb := grown_below hg
    have HV := Lib.hid (HB.out.next hb)
    have k1 : V.cell? ⟨w.heap.size, 0, none⟩ = some (.slice a0 L.secs.length p0) := HV.out.cell rfl
    have g2 : w.heap.size < V.heap.size := by have := HV.out.lt; omega
    have f2 : V.frozen? ⟨w.heap.size, 0, none⟩ = false := HV.out.fz 0
    have HR := Lib.hid hr
    have HBB := Lib.hid hb
    clear hr hg hb k0 g1
    go_wp2_with fail
    go_meet
    exact ⟨A0, d0, Lib.hid (HV.out.set rfl), Lib.hid (HV.out.keep HR.out (by decide))⟩
  case rest =>
  obtain ⟨A0, d0, HB1, O0⟩ := hcut
  clear HB
  obtain ⟨X, hX⟩ : ∃ X, X = wc := ⟨_, rfl⟩
  subst hX
  have HB := HB1
  clear HB1
  go_upto_region 2 with fail
  go_cut [] (fun w' => ∃ (A0 A1 : Option Addr) (d0 d1 : Nat), Hid (BSt w w' [.slice A0 L.secs.length d0, .slice A1 L.sigs.length d1, .slice a2 L.exits.length p2, .slice a3 L.flanks.length p3, .int .i64 L.t0, .int .i64 L.t1, .int .i64 L.t2, .int .i64 L.t3, .int .i64 L.t4, .int .i64 L.t5, .int .i64 L.t6]) ∧ Hid (w'.ownsRow w.heap.size 69 11 (.slice A0 L.secs.length d0) L.secs.length (L.secs.flatMap Sec.enc)) ∧ Hid (w'.ownsRow w.heap.size 71 2 (.slice A1 L.sigs.length d1) L.sigs.length (L.sigs.flatMap Prt.enc)))
  case first =>
    obtain ⟨i0, z0, hi, hz, hs1, hs2, hs3⟩ := info_Signal
    have HI := Lib.hid (⟨hi, hz, hs1, hs2, hs3⟩ : _ ∧ _ ∧ _ ∧ _ ∧ _)
    have k0 : X.cell? ⟨w.heap.size, 1, none⟩ = some (.slice a1 L.sigs.length p1) := HB.out.cell rfl
    have g1 : w.heap.size < X.heap.size := by have := HB.out.lt; omega
    clear hi hz hs1 hs2 hs3
    go_wp2_with (at_builtin; refine Hid.out ?_)
    refine Lib.hid ?_
    refine wpList_append_at (enc := Prt.enc) rfl _ _ _ rfl w.heap.size 71 i0 z0 2 i0.bytes Tryd.underlying23 HI.out.1 HI.out.2.1 HI.out.2.2.1 rfl HI.out.2.2.2.1 (by decide) (.slice (some ⟨X.heap.size, 0, none⟩) 0 0) 0 [] rfl (World.ownsRow_made X #[] 0 (by omega) (by unfold maxLen; omega) (by simp)) a1 L.sigs.length p1 L.sigs rfl rfl (HL.out.sigs.below (bchain HB.out.below bself)) (fun _ => rfl) prt_one (by have := HF.out.2.1; unfold maxLen; omega) ?_ (by simp; omega) ?_
    · have h2 := Nat.mul_le_mul HF.out.2.1 HI.out.2.2.2.2
      rw [Nat.zero_add]
      omega
    intro v' V hr hg
    obtain ⟨A1, d1, rfl⟩ := ownsV hr
    rw [Nat.zero_add, List.nil_append] at hr
    rw [Nat.zero_add]
    have hb := grown_below hg
    have HV := Lib.hid (HB.out.next hb)
    have k1 : V.cell? ⟨w.heap.size, 1, none⟩ = some (.slice a1 L.sigs.length p1) := HV.out.cell rfl
    have g2 : w.heap.size < V.heap.size := by have := HV.out.lt; omega
    have f2 : V.frozen? ⟨w.heap.size, 1, none⟩ = false := HV.out.fz 1
    have HR := Lib.hid hr
    have HBB := Lib.hid hb
    clear hr hg hb k0 g1
    go_wp2_with fail
    go_meet
    exact ⟨A0, A1, d0, d1, Lib.hid (HV.out.set rfl), Lib.hid (HV.out.keep (owns_below O0.out HBB.out) (by decide)), Lib.hid (HV.out.keep HR.out (by decide))⟩
  case rest =>
  obtain ⟨A0, A1, d0, d1, HB1, O0, O1⟩ := hcut
  clear HB
  obtain ⟨X, hX⟩ : ∃ X, X = wc := ⟨_, rfl⟩
  subst hX
  have HB := HB1
  clear HB1
  go_upto_region 3 with fail
  go_cut [] (fun w' => ∃ (A0 A1 A3 : Option Addr) (d0 d1 d3 : Nat), Hid (BSt w w' [.slice A0 L.secs.length d0, .slice A1 L.sigs.length d1, .slice a2 L.exits.length p2, .slice A3 L.flanks.length d3, .int .i64 L.t0, .int .i64 L.t1, .int .i64 L.t2, .int .i64 L.t3, .int .i64 L.t4, .int .i64 L.t5, .int .i64 L.t6]) ∧ Hid (w'.ownsRow w.heap.size 69 11 (.slice A0 L.secs.length d0) L.secs.length (L.secs.flatMap Sec.enc)) ∧ Hid (w'.ownsRow w.heap.size 71 2 (.slice A1 L.sigs.length d1) L.sigs.length (L.sigs.flatMap Prt.enc)) ∧ Hid (w'.ownsRow w.heap.size 75 4 (.slice A3 L.flanks.length d3) L.flanks.length (L.flanks.flatMap Flk.enc)))
  case first =>
    obtain ⟨i0, z0, hi, hz, hs1, hs2, hs3⟩ := info_Flank
    have HI := Lib.hid (⟨hi, hz, hs1, hs2, hs3⟩ : _ ∧ _ ∧ _ ∧ _ ∧ _)
    have k0 : X.cell? ⟨w.heap.size, 3, none⟩ = some (.slice a3 L.flanks.length p3) := HB.out.cell rfl
    have g1 : w.heap.size < X.heap.size := by have := HB.out.lt; omega
    clear hi hz hs1 hs2 hs3
    go_wp2_with (at_builtin; refine Hid.out ?_)
    refine Lib.hid ?_
    refine wpList_append_at (enc := Flk.enc) rfl _ _ _ rfl w.heap.size 75 i0 z0 4 i0.bytes Tryd.underlying25 HI.out.1 HI.out.2.1 HI.out.2.2.1 rfl HI.out.2.2.2.1 (by decide) (.slice (some ⟨X.heap.size, 0, none⟩) 0 0) 0 [] rfl (World.ownsRow_made X #[] 0 (by omega) (by unfold maxLen; omega) (by simp)) a3 L.flanks.length p3 L.flanks rfl rfl (HL.out.flanks.below (bchain HB.out.below bself)) (fun _ => rfl) flk_one (by have := HF.out.2.2.2.1; unfold maxLen; omega) ?_ (by simp; omega) ?_
    · have h2 := Nat.mul_le_mul HF.out.2.2.2.1 HI.out.2.2.2.2
      rw [Nat.zero_add]
      omega
    intro v' V hr hg
    obtain ⟨A3, d3, rfl⟩ := ownsV hr
    rw [Nat.zero_add, List.nil_append] at hr
    rw [Nat.zero_add]
    have hb := grown_below hg
    have HV := Lib.hid (HB.out.next hb)
    have k1 : V.cell? ⟨w.heap.size, 3, none⟩ = some (.slice a3 L.flanks.length p3) := HV.out.cell rfl
    have g2 : w.heap.size < V.heap.size := by have := HV.out.lt; omega
    have f2 : V.frozen? ⟨w.heap.size, 3, none⟩ = false := HV.out.fz 3
    have HR := Lib.hid hr
    have HBB := Lib.hid hb
    clear hr hg hb k0 g1
    go_wp2_with fail
    go_meet
    exact ⟨A0, A1, A3, d0, d1, d3, Lib.hid (HV.out.set rfl), Lib.hid (HV.out.keep (owns_below O0.out HBB.out) (by decide)), Lib.hid (HV.out.keep (owns_below O1.out HBB.out) (by decide)), Lib.hid (HV.out.keep HR.out (by decide))⟩
  case rest =>
  obtain ⟨A0, A1, A3, d0, d1, d3, HB1, O0, O1, O3⟩ := hcut
  have hm2 : L.exits.length ≤ p2 ∧ p2 ≤ 9223372036854775807 := HL.out.l2
  have hfe : L.exits.length ≤ 1000 := HF.out.2.2.1
  have k2 : wc.cell? ⟨w.heap.size, 2, none⟩ = some (.slice a2 L.exits.length p2) := HB1.out.cell rfl
  have g2 : w.heap.size < wc.heap.size := by have := HB1.out.lt; omega
  have f2 : wc.frozen? ⟨w.heap.size, 2, none⟩ = false := HB1.out.fz 2
  clear HB
  go_upto_region 6 with fail
  obtain ⟨Y, hY⟩ : ∃ Y, Y = wc.setCell ⟨w.heap.size, 2, none⟩ (.slice none 0 0) := ⟨_, rfl⟩
  have HB : Hid (BSt w Y [.slice A0 L.secs.length d0, .slice A1 L.sigs.length d1, .slice none 0 0, .slice A3 L.flanks.length d3, .int .i64 L.t0, .int .i64 L.t1, .int .i64 L.t2, .int .i64 L.t3, .int .i64 L.t4, .int .i64 L.t5, .int .i64 L.t6]) := Lib.hid (by rw [hY]; exact HB1.out.set rfl)
  have HO : Hid (Owned w.heap.size Y ⟨A0, A1, none, A3, d0, d1, 0, d3⟩ ⟨L.secs, L.sigs, [], L.flanks, L.t0, L.t1, L.t2, L.t3, L.t4, L.t5, L.t6⟩ []) := Lib.hid (by
    rw [hY]
    exact ⟨HB1.out.keep O0.out (by decide), HB1.out.keep O1.out (by decide), World.ownsRow_nil _ _ _ _, HB1.out.keep O3.out (by decide), rfl, (fun t ht => by cases ht), HL.out.kinds⟩)
  rw [← hY]
  clear hY HB1 O0 O1 O3 k2 g2 f2
  go_wp2_with fail
  go_loopw [4] (fun c wr => ∃ (k : Nat) (A2 : Option Addr) (d2 : Nat) (eq : List (Ext' × Value)), k ≤ L.exits.length ∧ c = .int .i64 k ∧ Hid (BSt w wr [.slice A0 L.secs.length d0, .slice A1 L.sigs.length d1, .slice A2 k d2, .slice A3 L.flanks.length d3, .int .i64 L.t0, .int .i64 L.t1, .int .i64 L.t2, .int .i64 L.t3, .int .i64 L.t4, .int .i64 L.t5, .int .i64 L.t6]) ∧ Hid (Owned w.heap.size wr ⟨A0, A1, A2, A3, d0, d1, d2, d3⟩ ⟨L.secs, L.sigs, L.exits.take k, L.flanks, L.t0, L.t1, L.t2, L.t3, L.t4, L.t5, L.t6⟩ eq)) (fun c _ => L.exits.length - (intOf c).toNat)
  case atStart => exact ⟨0, none, 0, [], Nat.zero_le _, rfl, HB, HO⟩
  case round =>
    obtain ⟨k, A2, d2, eq, hk, rfl, HB2, HO2⟩ := hrel
    clear HB HO
    by_cases hlt : k < L.exits.length
    · obtain ⟨es', hes, hAt, hov, hlen⟩ : ∃ es : List (Ext' × Value), es.map (·.1) = L.exits ∧ At w 3 Ext'.enc a2 es ∧ (∀ e ∈ es, Sl w 3 Stp.enc e.2 e.1.over) ∧ es.length = L.exits.length := ⟨es, HE.out⟩
      obtain ⟨eb, eo, ea, hrow⟩ := hAt.get (j := k) (by omega)
      obtain ⟨x, hx⟩ : ∃ x, es'[k]? = some x := ⟨es'[k]'(by omega), List.getElem?_eq_getElem (by omega)⟩
      have hxL : L.exits[k]? = some x.1 := by rw [← hes, List.getElem?_map, hx]; rfl
      obtain ⟨vA, vc, ve, hvl, hvm, hva⟩ := hov x (List.mem_of_getElem? hx)
      subst ea
      obtain ⟨ol, hol⟩ : ∃ ol, ol = x.1.over.length := ⟨_, rfl⟩
      rw [← hol] at ve hvl
      have hol2 : ol ≤ 1000 := by rw [hol]; exact HF.out.2.2.2.2 x.1 (List.mem_of_getElem? hxL)
      go_upto_region 9 with fail
      obtain ⟨U, hU⟩ : ∃ U, U = wr := ⟨_, rfl⟩
      rw [← hU] at HB2 HO2 ⊢
      have hUw : Below w.heap.size w U := HB2.out.below
      have y0 : ∀ V', ClB U V' → V'.cell? ⟨eb, eo + k * 3, none⟩ = some (.int .i64 x.1.s) := fun V' h => ((bchain hUw h).cell (p := ⟨eb, eo + k * 3, none⟩) hrow.1).trans (hrow.2 k x hx 0 _ rfl)
      have y1 : ∀ V', ClB U V' → V'.cell? ⟨eb, eo + k * 3 + 1, none⟩ = some (.int .i64 x.1.p) := fun V' h => ((bchain hUw h).cell (p := ⟨eb, eo + k * 3 + 1, none⟩) hrow.1).trans (hrow.2 k x hx 1 _ rfl)
      have y2 : ∀ V', ClB U V' → V'.cell? ⟨eb, eo + k * 3 + 2, none⟩ = some (.slice vA ol vc) := fun V' h => ((bchain hUw h).cell (p := ⟨eb, eo + k * 3 + 2, none⟩) hrow.1).trans ((hrow.2 k x hx 2 _ rfl).trans (by rw [ve]))
      have cs : ∀ V', ClB U V' → V'.cell? ⟨w.heap.size, 2, none⟩ = some (.slice A2 k d2) := fun V' h => (HB2.out.next h).cell rfl
      obtain ⟨i0, z0, hi, hz, hs1, hs2, hs3⟩ := info_Step
      have HI := Lib.hid (⟨hi, hz, hs1, hs2, hs3⟩ : _ ∧ _ ∧ _ ∧ _ ∧ _)
      have HX := Lib.hid (⟨hol, fun V' (h : ClB U V') => hva.below (bchain hUw h), by unfold maxLen; omega, by
        have h2 := Nat.mul_le_mul hol2 hs3
        omega⟩ : ol = x.1.over.length ∧ (∀ V', ClB U V' → At V' 3 Stp.enc vA x.1.over) ∧ ol ≤ maxLen ∧ ol * i0.bytes ≤ 140737488355328)
      have HXX := Lib.hid (⟨hx, hxL, hol⟩ : _ ∧ _ ∧ _)
      have hi64 : (k : Int) < (L.exits.length : Int) := by omega
      clear hi hz hs1 hs2 hs3 hes hAt hov hrow hx hxL hol hva ve hU hUw
      focus
        refine (wpIn_wide (n := 5)).1 (wpIn_region_rel_head (.inl rfl) 16 [([(1, none)], none), ([(29, some 0)], none), ([(3, none)], none), ([(4, none)], none), ([(31, some 1), (32, some 0)], none), ([(33, some 0)], none), ([(34, some 0)], none), ([], none), ([(3, none)], none), ([(4, none)], none), ([(37, some 1), (38, some 0)], none), ([(39, some 0)], none), ([(40, some 0)], none), ([(36, some 5), (41, some 0)], none), ([(35, some 7), (42, some 0)], none), ([(43, some 0)], none)] [(0, 44), (14, 30)] (by kernel_rfl) (by kernel_rfl) (by kernel_rfl) (by kernel_rfl) (by kernel_rfl) (by kernel_rfl) (by kernel_rfl) (by kernel_rfl) ?_)
        simp only [List.take_succ_cons, List.take_zero, List.drop_succ_cons, List.drop_zero]
        refine ob_det (c := .pointer (some ⟨w.heap.size, 2, none⟩)) ?_ ?_
        · intro ρ W hk hC
          simp only [seen, obOp]
          rintro h1
          replace h1 : ρ (.tmp 1) = .pointer (some ⟨w.heap.size, 0, none⟩) := h1.trans rfl
          exact rel_value (by simp [go_sem, h1]) hC
        refine ob_det (c := .slice A2 k d2) ?_ ?_
        · intro ρ W hk hC
          simp only [seen, obOp, List.getD_cons_zero]
          rintro h29
          exact rel_value (by simp [go_sem, h29, cs W hC]) hC
        refine ob_det (c := .slice (some ⟨eb, eo, none⟩) L.exits.length p2) ?_ ?_
        · intro ρ W hk hC
          simp only [seen, obOp]
          rintro h3
          replace h3 : ρ (.tmp 3) = .slice (some ⟨eb, eo, none⟩) L.exits.length p2 := h3.trans rfl
          exact rel_value (by simp [go_sem, h3]) hC
        refine ob_det (c := .int .i64 (k : Nat)) ?_ ?_
        · intro ρ W hk hC
          simp only [seen, obOp]
          rintro h4
          replace h4 : ρ (.tmp 4) = .int .i64 (k : Nat) := h4.trans rfl
          exact rel_value (by simp [go_sem, h4]) hC
        refine ob_det (c := .pointer (some ⟨eb, eo + k * 3, none⟩)) ?_ ?_
        · intro ρ W hk hC
          simp only [seen, obOp, List.getD_cons_zero, List.getD_cons_succ]
          rintro h31 h32
          exact rel_value (by simp [go_sem, h31, h32, hi64]) hC
        refine ob_det (c := .pointer (some ⟨eb, eo + k * 3, none⟩)) ?_ ?_
        · intro ρ W hk hC
          simp only [seen, obOp, List.getD_cons_zero]
          rintro h33
          exact rel_value (by simp [go_sem, h33]) hC
        refine ob_det (c := .agg #[.int .i64 x.1.s, .int .i64 x.1.p]) ?_ ?_
        · intro ρ W hk hC
          simp only [seen, obOp, List.getD_cons_zero]
          rintro h34
          exact rel_value (by simp [go_sem, h34, y0 W hC, y1 W hC]) hC
        refine ⟨EmptyS U 73, fun _ _ _ h k => h.step k, ?_, ?_⟩
        · intro ρ W hk hC
          simp only [seen, obOp]
          exact rel_emptyS (by simp [go_sem]) hC
        refine ob_det (c := .slice (some ⟨eb, eo, none⟩) L.exits.length p2) ?_ ?_
        · intro ρ W hk hC
          simp only [seen, obOp]
          rintro h3
          replace h3 : ρ (.tmp 3) = .slice (some ⟨eb, eo, none⟩) L.exits.length p2 := h3.trans rfl
          exact rel_value (by simp [go_sem, h3]) hC
        refine ob_det (c := .int .i64 (k : Nat)) ?_ ?_
        · intro ρ W hk hC
          simp only [seen, obOp]
          rintro h4
          replace h4 : ρ (.tmp 4) = .int .i64 (k : Nat) := h4.trans rfl
          exact rel_value (by simp [go_sem, h4]) hC
        refine ob_det (c := .pointer (some ⟨eb, eo + k * 3, none⟩)) ?_ ?_
        · intro ρ W hk hC
          simp only [seen, obOp, List.getD_cons_zero, List.getD_cons_succ]
          rintro h37 h38
          exact rel_value (by simp [go_sem, h37, h38, hi64]) hC
        refine ob_det (c := .pointer (some ⟨eb, eo + k * 3 + 2, none⟩)) ?_ ?_
        · intro ρ W hk hC
          simp only [seen, obOp, List.getD_cons_zero]
          rintro h39
          exact rel_value (by simp [go_sem, h39]) hC
        refine ob_det (c := .slice vA ol vc) ?_ ?_
        · intro ρ W hk hC
          simp only [seen, obOp, List.getD_cons_zero]
          rintro h40
          exact rel_value (by simp [go_sem, h40, y2 W hC]) hC
        refine ⟨fun v W => W.ownsRow U.heap.size 73 3 v ol (x.1.over.flatMap Stp.enc), fun _ _ _ h k => owns_below h k, ?_, ?_⟩
        · intro ρ W hk hC
          simp only [seen, obOp, List.getD_cons_zero, List.getD_cons_succ]
          rintro h36 h41
          exact rel_copy Tryd.underlying49 HI.out.1 HI.out.2.1 HI.out.2.2.1 rfl HI.out.2.2.2.1 (by decide) h36 HX.out.1 h41 (HX.out.2.1 W hC) (fun _ => rfl) HX.out.2.2.1 HX.out.2.2.2 hC
        refine ⟨fun v W => ∃ sv, v = .agg #[.int .i64 x.1.s, .int .i64 x.1.p, sv] ∧ W.ownsRow U.heap.size 73 3 sv ol (x.1.over.flatMap Stp.enc), fun _ _ _ h k => ⟨h.choose, h.choose_spec.1, owns_below h.choose_spec.2 k⟩, ?_, ?_⟩
        · intro ρ W hk hC
          simp only [seen, obOp, List.getD_cons_zero, List.getD_cons_succ]
          rintro h35 h42
          obtain ⟨oA, oc, ho⟩ := ownsV h42
          have hr := h42
          rw [ho] at hr
          refine relUpon_value (c := .agg #[.int .i64 x.1.s, .int .i64 x.1.p, .slice oA ol oc]) (by simp [go_sem, h35, ho]) hC ⟨_, rfl, hr⟩
        refine ⟨fun v W => ∃ sv, OneS U #[.int .i64 x.1.s, .int .i64 x.1.p, sv] v W ∧ W.ownsRow U.heap.size 73 3 sv ol (x.1.over.flatMap Stp.enc), fun _ _ _ h k => ⟨h.choose, h.choose_spec.1.step k, owns_below h.choose_spec.2 k⟩, ?_, ?_⟩
        · intro ρ W hk hC
          simp only [seen, obOp, List.getD_cons_zero]
          rintro h43
          obtain ⟨sv, hv, hr⟩ := h43
          obtain ⟨oA, oc, ho⟩ := ownsV hr
          subst ho
          exact relUpon_mono (rel_one (cs := #[.int .i64 x.1.s, .int .i64 x.1.p, .slice oA ol oc]) (T := 51) (by simp [go_sem, hv]) hC) fun v w2 st h => ⟨_, h, owns_below hr st⟩
        intro vs w5 hC5
        simp only [endSeen, List.getD_cons_zero, List.getD_cons_succ]
        intro h44 h30
        simp only [writeAll, List.setIfInBounds_toArray, List.set_cons_zero, List.set_cons_succ]
        obtain ⟨sv, ⟨g1, hg1, lg1, lg1', cg1⟩, hsv⟩ := h44
        replace h30 : vs 30 = .slice A2 k d2 := h30
        rw [hg1, h30]
        obtain ⟨sA, sc, hse⟩ := ownsV hsv
        subst hse
        obtain ⟨j0, zj, hj, hzj, hj1, hj2, hj3⟩ := info_Exit
        have HV := Lib.hid (HB2.out.next hC5)
        have HOV := Lib.hid (HO2.out.below hC5)
        have hown := HOV.out.exits
        have hkl : (L.exits.take k).length = k := by rw [List.length_take]; omega
        have hown2 : w5.ownsRow w.heap.size 51 3 (.slice A2 k d2) k (eq.flatMap Ext'.enc) := by
          have h := hown
          dsimp only at h
          rwa [hkl] at h
        refine wpListIn_append_own _ rfl _ _ 24 rfl w.heap.size 51 j0 zj 3 j0.bytes Tryd.underlying24 hj hzj hj1 rfl hj2 (by decide) _ k (eq.flatMap Ext'.enc) (by rfl) hown2 ⟨g1, 0, none⟩ 1 1 (Ext'.enc (x.1, .slice sA ol sc)) (by rfl) rfl ?x1 ?x2 ?x3 ?x4 ?x5 ?_
        case x1 =>
          intro i u hu
          rw [add_at]
          have := cg1 i
          rw [Nat.zero_add, this]
          simpa [Ext'.enc] using hu
        case x2 =>
          intro u hu
          simp only [Ext'.enc, List.mem_cons, List.not_mem_nil, or_false] at hu
          rcases hu with rfl | rfl | rfl <;> rfl
        case x3 => unfold maxLen; omega
        case x4 =>
          have h2 := Nat.mul_le_mul (show k + 1 ≤ 1000 by omega) hj3
          omega
        case x5 => have := HV.out.lt; omega
        intro v' w6 hown' hgrow _
        obtain ⟨A2', d2', rfl⟩ := ownsV hown'
        have hb6 : Below w.heap.size w5 w6 := (Below.refl _ _).grown hgrow (by have := HV.out.lt; omega) (fun kk e => (hown2.lt kk e).1)
        have hg6 : w5.grownBy w6 (Value.slice A2 (L.exits.take k).length d2).ownBlock := by rw [hkl]; exact hgrow
        have hbx6 : BSt w w6 [.slice A0 L.secs.length d0, .slice A1 L.sigs.length d1, .slice A2 k d2, .slice A3 L.flanks.length d3, .int .i64 L.t0, .int .i64 L.t1, .int .i64 L.t2, .int .i64 L.t3, .int .i64 L.t4, .int .i64 L.t5, .int .i64 L.t6] := by
          obtain ⟨q1, q2, q3⟩ := HV.out
          have hne : ∀ (c : Array Value) (kk : Nat), w5.heap[kk]? = some (Obj.cells c 29 (0, 0)) → w6.heap[kk]? = w5.heap[kk]? := fun c kk hc => hgrow.block kk (Array.getElem?_eq_some_iff.1 hc).1 fun e => by
            rcases hown2.2 with ⟨h, _⟩ | ⟨g', cap', cur', h, _, hg', _⟩
            · rw [h] at e; cases e
            · rw [h] at e
              obtain rfl : kk = g' := by simpa [Value.ownBlock] using e
              rw [hc] at hg'
              cases hg'
          exact ⟨q1.trans hb6, (hne _ _ q2).trans q2, (hne _ _ q3).trans q3⟩
        obtain ⟨hn2, hO6⟩ := Owned.addE (x := x.1) (v := .slice sA ol sc) (n' := k + 1) (c' := d2') (A' := A2') HOV.out hg6 (by
          show w6.ownsRow _ _ _ _ ((L.exits.take k).length + 1) _
          rw [hkl]
          simpa using hown') (by have := owns_base hsv (show w.heap.size ≤ U.heap.size by have := HB2.out.lt; omega); rw [← HXX.out.2.2]; exact this)
        have htk : L.exits.take k ++ [x.1] = L.exits.take (k + 1) := by rw [List.take_add_one, HXX.out.2.1]; rfl
        have c2 : w6.cell? ⟨w.heap.size, 2, none⟩ = some (.slice A2 k d2) := hbx6.cell rfl
        have f6 : w6.frozen? ⟨w.heap.size, 2, none⟩ = false := hbx6.fz 2
        have l6 : w.heap.size < w6.heap.size := by have := hbx6.lt; omega
        have HB6 := Lib.hid hbx6
        have HO6 := Lib.hid hO6
        clear hO6 hn2 hbx6 hb6 hg6 hown hown2 hown' hgrow hj hzj hj1 hj2 hj3 cg1 lg1 lg1' hsv hg1 h30 hC5 y0 y1 y2 cs
        gi_wp2
        go_wp2_with fail
        go_round
        case measure => simp [intOf]; omega
        case rel =>
          refine ⟨k + 1, A2', d2', eq ++ [(x.1, .slice sA ol sc)], by omega, by go_num, Lib.hid (HB6.out.set rfl), Lib.hid ?_⟩
          have := HB6.out.keepO (i := 2) (v := .slice A2' (k + 1) d2') HO6.out
          unfold addE at this
          dsimp only at this
          rw [htk] at this
          exact this
    · obtain rfl : k = L.exits.length := by omega
      have hrd : ∀ (i : Nat) (v : Value), ([.slice A0 L.secs.length d0, .slice A1 L.sigs.length d1, .slice A2 L.exits.length d2, .slice A3 L.flanks.length d3, .int .i64 L.t0, .int .i64 L.t1, .int .i64 L.t2, .int .i64 L.t3, .int .i64 L.t4, .int .i64 L.t5, .int .i64 L.t6] : List Value)[i]? = some v → wr.cell? ⟨w.heap.size, i, none⟩ = some v := fun i v hv => HB2.out.cell hv
      have hzr : ∀ (i : Nat) (v : Value), zeroLay[i]? = some v → wr.cell? ⟨w.heap.size + 1, i, none⟩ = some v := fun i v hv => HB2.out.zero hv
      have hzf : ∀ o, wr.frozen? ⟨w.heap.size + 1, o, none⟩ = false := fun o => HB2.out.fz1 o
      have lw1 : w.heap.size + 1 < wr.heap.size := HB2.out.lt
      have lw0 : w.heap.size < wr.heap.size := by omega
      have b0 := hrd 0 _ rfl
      have b1 := hrd 1 _ rfl
      have b2 := hrd 2 _ rfl
      have b3 := hrd 3 _ rfl
      have b4 := hrd 4 _ rfl
      have b5 := hrd 5 _ rfl
      have b6 := hrd 6 _ rfl
      have b7 := hrd 7 _ rfl
      have b8 := hrd 8 _ rfl
      have b9 := hrd 9 _ rfl
      have b10 := hrd 10 _ rfl
      have e0 := hzr 0 _ rfl
      have e1 := hzr 1 _ rfl
      have e2 := hzr 2 _ rfl
      have e3 := hzr 3 _ rfl
      have e4 := hzr 4 _ rfl
      have e5 := hzr 5 _ rfl
      have e6 := hzr 6 _ rfl
      have e7 := hzr 7 _ rfl
      have e8 := hzr 8 _ rfl
      have e9 := hzr 9 _ rfl
      have e10 := hzr 10 _ rfl
      have htk : L.exits.take L.exits.length = L.exits := List.take_length
      have HO3 : Hid (Owned w.heap.size wr ⟨A0, A1, A2, A3, d0, d1, d2, d3⟩ L eq) := Lib.hid (by
        have := HO2.out
        rw [htk] at this
        exact this)
      clear hrd hzr htk HO2
      go_wp2
      refine bodyPost_ret (v := L.val ⟨A0, A1, A2, A3, d0, d1, d2, d3⟩) (by simp [results, Tryd.results20, go_sem, *]) rfl ⟨⟨A0, A1, A2, A3, d0, d1, d2, d3⟩, eq, rfl, ?own, ?bel⟩
      case bel =>
        repeat refine Below.setCell ?_ (by dsimp only; omega) _
        exact HB2.out.below
      case own =>
        refine Owned.kept HO3.out (g := w.heap.size + 1) (fun k _ hk => ?_) HB2.out.zr (by decide) (by decide) (by decide) (by decide) (by decide)
        iterate 11 rw [Below.heap_setCell _ _ _ _ (by dsimp only; exact hk)]
end Go.Proofs.YtpnnbihofoomeaaDoor
