/-
  layout.Own.
-/
import Derived.Test.YtkphihbimdffjaaDoorClone
import Derived.Deep.DeepCutAuto
import Derived.Test.YtkphihbimdffjaaDoorHead
import Derived.Deep.RegionHeld3
namespace Go.Proofs.YtkphihbimdffjaaDoor
open Go.RowKit Go.Shelf

theorem ownsRow_slice {B e size n : Nat} {W : World} {sv : Value} {xs : List Value} (h : W.ownsRow B e size sv n xs) : ∃ A c, sv = .slice A n c := by
  rcases h.2 with ⟨rfl, rfl⟩ | ⟨g', cap, cur, rfl, _⟩
  · exact ⟨_, _, rfl⟩
  · exact ⟨_, _, rfl⟩
/-- A layout of few of each. -/
def Few (L : Lay) : Prop := L.secs.length ≤ 1000 ∧ L.sigs.length ≤ 1000 ∧ L.exits.length ≤ 1000 ∧ L.flanks.length ≤ 1000 ∧ ∀ x ∈ L.exits, x.over.length ≤ 1000
/-- A copy comes back. -/
def CopyV {α : Type} (e : TypeId) (k : Nat) (enc : α → List Value) (xs : List α) (w0 w : World) (en : Ending) (w' : World) : Prop :=
  ∃ A c, en = .returned (.slice A xs.length c) ∧ Hid (w'.ownsRow w.heap.size e k (.slice A xs.length c) xs.length (xs.flatMap enc)) ∧ Hid (Below w.heap.size w w') ∧ Hid (Below w0.heap.size w0 w')
theorem copyV {α : Type} {e : TypeId} {k : Nat} {enc : α → List Value} {xs : List α} {w0 w : World} {en : Ending} {w' : World} (h0 : Below w0.heap.size w0 w) (h : CloneOf e k enc xs w en w') : CopyV e k enc xs w0 w en w' := by
  obtain ⟨v, he, ho, hb⟩ := h
  obtain ⟨A, c, rfl⟩ := ownsRow_slice ho
  exact ⟨A, c, he, Lib.hid ho, Lib.hid hb, Lib.hid (bchain h0 hb)⟩

/-- As At, the block between z and B. -/
def AtB {α : Type} (z B : Nat) (W : World) (k : Nat) (enc : α → List Value) (A : Option Addr) (xs : List α) : Prop :=
  xs = [] ∨ ∃ b off, A = some ⟨b, off, none⟩ ∧ (z < b ∧ b < B) ∧ RowAt' W k enc b off xs
theorem AtB.at {α : Type} {z B : Nat} {W : World} {k : Nat} {enc : α → List Value} {A : Option Addr} {xs : List α} (h : AtB z B W k enc A xs) : At W k enc A xs := by
  rcases h with h | ⟨b, off, e, _, h⟩
  · exact .inl h
  · exact .inr ⟨b, off, e, h⟩
theorem AtB.below {α : Type} {z B : Nat} {W W' : World} {k : Nat} {enc : α → List Value} {A : Option Addr} {xs : List α} (h : AtB z B W k enc A xs) (hb : Below B W W') : AtB z B W' k enc A xs := by
  rcases h with h | ⟨b, off, e, h1, h2, h3⟩
  · exact .inl h
  · exact .inr ⟨b, off, e, h1, Nat.lt_of_lt_of_le h2 hb.size, fun j x hx i v hv => (hb.cell (p := ⟨b, off + j * k + i, none⟩) h1.2).trans (h3 j x hx i v hv)⟩
/-- A slice that holds xs, in other blocks than g and z. -/
def SlN {α : Type} (g z : Nat) (W : World) (k : Nat) (enc : α → List Value) (v : Value) (xs : List α) : Prop :=
  ∃ A cap, v = .slice A xs.length cap ∧ xs.length ≤ cap ∧ cap ≤ maxLen ∧ (xs = [] ∨ ∃ b off, A = some ⟨b, off, none⟩ ∧ b ≠ g ∧ b ≠ z ∧ RowAt' W k enc b off xs)
theorem SlN.sl {α : Type} {g z : Nat} {W : World} {k : Nat} {enc : α → List Value} {v : Value} {xs : List α} (h : SlN g z W k enc v xs) : Sl W k enc v xs := by
  obtain ⟨A, c, e, h1, h2, h3⟩ := h
  refine ⟨A, c, e, h1, h2, ?_⟩
  rcases h3 with h3 | ⟨b, off, e, _, _, h⟩
  · exact .inl h3
  · exact .inr ⟨b, off, e, h⟩
theorem SlN.below {α : Type} {g z : Nat} {W W' : World} {k : Nat} {enc : α → List Value} {v : Value} {xs : List α} (h : SlN g z W k enc v xs) (hb : Below W.heap.size W W') : SlN g z W' k enc v xs := by
  obtain ⟨A, c, e, h1, h2, h3⟩ := h
  refine ⟨A, c, e, h1, h2, ?_⟩
  rcases h3 with h3 | ⟨b, off, e, hn, hz, h⟩
  · exact .inl h3
  · exact .inr ⟨b, off, e, hn, hz, h.below hb⟩
theorem RowAt'.set {α : Type} {g o : Nat} {u : Value} {W : World} {k : Nat} {enc : α → List Value} {b off : Nat} {xs : List α} (h : RowAt' W k enc b off xs) (hn : b ≠ g) : RowAt' (W.setCell ⟨g, o, none⟩ u) k enc b off xs :=
  ⟨by simpa [World.setCell] using h.1, fun j x hx i v hv => (World.cell?_of_block (w := W) (a := ⟨b, off + j * k + i, none⟩) (Below.heap_setCell _ _ _ _ hn)).trans (h.2 j x hx i v hv)⟩
theorem SlN.set {α : Type} {g z o : Nat} {u : Value} {W : World} {k : Nat} {enc : α → List Value} {v : Value} {xs : List α} (h : SlN g z W k enc v xs) : SlN g z (W.setCell ⟨g, o, none⟩ u) k enc v xs := by
  obtain ⟨A, c, e, h1, h2, h3⟩ := h
  refine ⟨A, c, e, h1, h2, ?_⟩
  rcases h3 with h3 | ⟨b, off, e, hn, hz, h⟩
  · exact .inl h3
  · exact .inr ⟨b, off, e, hn, hz, h.set hn⟩
theorem SlN.setz {α : Type} {g z o : Nat} {u : Value} {W : World} {k : Nat} {enc : α → List Value} {v : Value} {xs : List α} (h : SlN g z W k enc v xs) : SlN g z (W.setCell ⟨z, o, none⟩ u) k enc v xs := by
  obtain ⟨A, c, e, h1, h2, h3⟩ := h
  refine ⟨A, c, e, h1, h2, ?_⟩
  rcases h3 with h3 | ⟨b, off, e, hn, hz, h⟩
  · exact .inl h3
  · exact .inr ⟨b, off, e, hn, hz, h.set hz⟩
theorem AtB.setz {α : Type} {z B o : Nat} {u : Value} {W : World} {k : Nat} {enc : α → List Value} {A : Option Addr} {xs : List α} (h : AtB z B W k enc A xs) : AtB z B (W.setCell ⟨z, o, none⟩ u) k enc A xs := by
  rcases h with h | ⟨b, off, e, h1, h2⟩
  · exact .inl h
  · exact .inr ⟨b, off, e, h1, h2.set (by omega)⟩
/-- The exits' row, Own's own. -/
def ExOwn (z B : Nat) (W : World) (A : Option Addr) (xs : List Ext') : Prop :=
  xs = [] ∨ ∃ g es, A = some ⟨g, 0, none⟩ ∧ B ≤ g ∧ es.map (·.1) = xs ∧ RowAt' W 3 Ext'.enc g 0 es ∧ (∀ e ∈ es, SlN g z W 3 Stp.enc e.2 e.1.over) ∧ (∀ o, W.frozen? ⟨g, o, none⟩ = false)
theorem ExOwn.below {z B : Nat} {W W' : World} {A : Option Addr} {xs : List Ext'} (h : ExOwn z B W A xs) (hb : Below W.heap.size W W') : ExOwn z B W' A xs := by
  rcases h with h | ⟨g, es, e, h1, h2, h3, h4, h5⟩
  · exact .inl h
  · exact .inr ⟨g, es, e, h1, h2, h3.below hb, fun y hy => (h4 y hy).below hb, fun o => (hb.frozen (p := ⟨g, o, none⟩) h3.1).trans (h5 o)⟩
theorem ExOwn.at {z B : Nat} {W : World} {A : Option Addr} {xs : List Ext'} (h : ExOwn z B W A xs) : ExAt W A xs := by
  rcases h with h | ⟨g, es, e, h1, h2, h3, h4, h5⟩
  · subst h
    exact ⟨[], rfl, .inl rfl, fun e he => by cases he⟩
  · exact ⟨es, h2, .inr ⟨_, _, e, h3⟩, fun y hy => (h4 y hy).sl⟩
def zeroLay : List Value := [.slice none 0 0, .slice none 0 0, .slice none 0 0, .slice none 0 0, .int .i64 0, .int .i64 0, .int .i64 0, .int .i64 0, .int .i64 0, .int .i64 0, .int .i64 0]
theorem ExOwn.setz {z B o : Nat} {u : Value} {W : World} {A : Option Addr} {xs : List Ext'} (hz : z < B) (h : ExOwn z B W A xs) : ExOwn z B (W.setCell ⟨z, o, none⟩ u) A xs := by
  rcases h with h | ⟨g, es, e, h1, h2, h3, h4, h5⟩
  · exact .inl h
  · exact .inr ⟨g, es, e, h1, h2, h3.set (by omega), fun y hy => (h4 y hy).setz, fun p => by rw [World.frozen?_setCell]; exact h5 p⟩
/-- What Own holds behind its first statement. -/
structure OwnAt (n0 B : Nat) (L : Lay) (q : Where) (W : World) : Prop where
  lt : n0 + 1 < B
  le : B ≤ W.heap.size
  secs : AtB (n0 + 1) B W 11 Sec.enc q.a0 L.secs
  sigs : AtB (n0 + 1) B W 2 Prt.enc q.a1 L.sigs
  flanks : AtB (n0 + 1) B W 4 Flk.enc q.a3 L.flanks
  l0 : L.secs.length ≤ q.c0 ∧ q.c0 ≤ 9223372036854775807
  l1 : L.sigs.length ≤ q.c1 ∧ q.c1 ≤ 9223372036854775807
  l2 : L.exits.length ≤ q.c2 ∧ q.c2 ≤ 9223372036854775807
  l3 : L.flanks.length ≤ q.c3 ∧ q.c3 ≤ 9223372036854775807
  bx : ∀ (i : Nat) (v : Value), (L.cells q)[i]? = some v → W.cell? ⟨n0, i, none⟩ = some v
  zr : ∀ o, W.frozen? ⟨n0 + 1, o, none⟩ = false
  zc : ∀ (i : Nat) (v : Value), zeroLay[i]? = some v → W.cell? ⟨n0 + 1, i, none⟩ = some v

theorem row_set {W : World} {g n : Nat} {u : Value} {y : Ext' × Value} {es : List (Ext' × Value)} (h : RowAt' W 3 Ext'.enc g 0 es) (hy : es[n]? = some y) : RowAt' (W.setCell ⟨g, n * 3 + 2, none⟩ u) 3 Ext'.enc g 0 (es.set n (y.1, u)) := by
  have hn := (List.getElem?_eq_some_iff.1 hy).1
  have hz := h.2 n y hy 2 _ rfl
  rw [Nat.zero_add] at hz
  refine ⟨by simpa [World.setCell] using h.1, fun j x hx i v hv => ?_⟩
  have hi : i < 3 := (List.getElem?_eq_some_iff.1 hv).1
  by_cases hj : j = n
  · subst hj
    rw [List.getElem?_set_self hn] at hx
    obtain rfl := Option.some.inj hx
    have h3 : i = 0 ∨ i = 1 ∨ i = 2 := by omega
    rw [Nat.zero_add]
    rcases h3 with rfl | rfl | rfl
    · rw [World.cell?_setCell_other _ _ _ _ (by simp)]
      have := h.2 j y hy 0 v hv
      rwa [Nat.zero_add] at this
    · rw [World.cell?_setCell_other _ _ _ _ (by simp)]
      have := h.2 j y hy 1 v hv
      rwa [Nat.zero_add] at this
    · rw [World.cell?_setCell_same _ _ _ hz]
      exact hv
  · rw [List.getElem?_set_ne (Ne.symm hj)] at hx
    rw [World.cell?_setCell_other _ _ _ _ (by simp <;> omega)]
    exact h.2 j x hx i v hv
theorem slN_of_row {z : Nat} {α : Type} {enc : α → List Value} {k : Nat} (hk : ∀ x, (enc x).length = k) (h0 : 0 < k) {W : World} {B e g : Nat} {v : Value} {xs : List α} (h : W.ownsRow B e k v xs.length (xs.flatMap enc)) (hg : g < B) (hz : z < B) : SlN g z W k enc v xs := by
  have hs := at_of_row hk h0 h
  obtain ⟨A, c, e1, h1, h2, h3⟩ := hs
  refine ⟨A, c, e1, h1, h2, ?_⟩
  rcases h3 with h3 | ⟨b, off, e2, hr⟩
  · exact .inl h3
  · suffices hbB : B ≤ b from .inr ⟨b, off, e2, by omega, by omega, hr⟩
    subst e2 e1
    rcases h.2 with ⟨h4, _⟩ | ⟨g', cap, cur, h4, h5, _⟩
    · cases h4
    · cases h4
      omega
theorem exOwn_set {W W1 : World} {z B g n d : Nat} {A : Option Addr} {y : Ext' × Value} {es : List (Ext' × Value)} {xs : List Ext'} {b e : Nat} (hgB : B ≤ g) (hes : es.map (·.1) = xs) (hrow : RowAt' W 3 Ext'.enc g 0 es) (hov : ∀ t ∈ es, SlN g z W 3 Stp.enc t.2 t.1.over) (hfz : ∀ o, W.frozen? ⟨g, o, none⟩ = false)
    (hy : es[n]? = some y) (q : Below W.heap.size W W1) (ho : W1.ownsRow b e 3 (.slice A y.1.over.length d) y.1.over.length (y.1.over.flatMap Stp.enc)) (hb : g < b) (hzb : z < b) : ExOwn z B (W1.setCell ⟨g, n * 3 + 2, none⟩ (.slice A y.1.over.length d)) (some ⟨g, 0, none⟩) xs := by
  have hn := (List.getElem?_eq_some_iff.1 hy).1
  refine .inr ⟨g, es.set n (y.1, .slice A y.1.over.length d), rfl, hgB, ?_, row_set (hrow.below q) hy, fun t hz => ?_, fun o => ?_⟩
  · rw [← hes, List.map_set]
    apply List.ext_getElem?
    intro j
    by_cases hj : j = n
    · subst hj
      rw [List.getElem?_set_self (by simpa using hn), List.getElem?_map, hy]
      rfl
    · rw [List.getElem?_set_ne (Ne.symm hj)]
  · rcases List.mem_or_eq_of_mem_set hz with hz | rfl
    · exact ((hov t hz).below q).set
    · exact (slN_of_row (enc := Stp.enc) (k := 3) (fun _ => rfl) (by decide) ho hb hzb).set
  · rw [World.frozen?_setCell]
    exact (q.frozen (p := ⟨g, o, none⟩) hrow.1).trans (hfz o)

theorem row_own {α : Type} {enc : α → List Value} {k : Nat} (hk : ∀ x, (enc x).length = k) (h0 : 0 < k) {W : World} {B e : Nat} {A : Option Addr} {c : Nat} {xs : List α} (h : W.ownsRow B e k (.slice A xs.length c) xs.length (xs.flatMap enc)) :
    (xs = [] ∨ ∃ g, A = some ⟨g, 0, none⟩ ∧ B ≤ g ∧ RowAt' W k enc g 0 xs ∧ ∀ o, W.frozen? ⟨g, o, none⟩ = false) ∧ xs.length ≤ c ∧ c ≤ 9223372036854775807 := by
  obtain ⟨A', c', e1, h1, h2, h3⟩ := at_of_row hk h0 h
  cases e1
  refine ⟨?_, h1, by unfold maxLen at h2; omega⟩
  rcases h3 with h3 | ⟨b, off, rfl, hr⟩
  · exact .inl h3
  · rcases h.2 with ⟨h4, _⟩ | ⟨g', cap, cur, h4, h5, _⟩
    · cases h4
    · cases h4
      exact .inr ⟨_, rfl, h5, hr, fun o => h.frozenAt o⟩
theorem atB_of {α : Type} {enc : α → List Value} {k z B B' : Nat} {W W' : World} {A : Option Addr} {xs : List α} (h : xs = [] ∨ ∃ g, A = some ⟨g, 0, none⟩ ∧ B ≤ g ∧ RowAt' W k enc g 0 xs ∧ ∀ o, W.frozen? ⟨g, o, none⟩ = false)
    (hz : z < B) (hb : Below W.heap.size W W') (hB : W.heap.size ≤ B') : AtB z B' W' k enc A xs := by
  rcases h with h | ⟨g, e, h1, h2, _⟩
  · exact .inl h
  · exact .inr ⟨g, 0, e, ⟨by omega, Nat.lt_of_lt_of_le h2.1 hB⟩, h2.below hb⟩
theorem AtB.setn {α : Type} {z B g o : Nat} {u : Value} {W : World} {k : Nat} {enc : α → List Value} {A : Option Addr} {xs : List α} (hg : g ≤ z) (h : AtB z B W k enc A xs) : AtB z B (W.setCell ⟨g, o, none⟩ u) k enc A xs := by
  rcases h with h | ⟨b, off, e, h1, h2⟩
  · exact .inl h
  · exact .inr ⟨b, off, e, h1, h2.set (by omega)⟩
/-- Own's four rows are copied, and its box is filled. -/
theorem own_join {L : Lay} {p : Where} {w X W1 W2 W3 W4 : World} {es : List (Ext' × Value)} {A1 A2 A3 A4 : Option Addr} {d1 d2 d3 d4 e1 e2 e3 e4 : Nat} (hX : Below w.heap.size w X) (hs : X.heap.size = w.heap.size + 2)
    (cX : ∀ (i : Nat) (v : Value), (L.cells p)[i]? = some v → X.cell? ⟨w.heap.size, i, none⟩ = some v) (zX : ∀ (i : Nat) (v : Value), zeroLay[i]? = some v → X.cell? ⟨w.heap.size + 1, i, none⟩ = some v) (fX : ∀ o, X.frozen? ⟨w.heap.size + 1, o, none⟩ = false)
    (hes : es.map (·.1) = L.exits) (hov : ∀ e ∈ es, Sl w 3 Stp.enc e.2 e.1.over) (hlen : es.length = L.exits.length)
    (o1 : W1.ownsRow X.heap.size e1 11 (.slice A1 L.secs.length d1) L.secs.length (L.secs.flatMap Sec.enc)) (o2 : W2.ownsRow W1.heap.size e2 2 (.slice A2 L.sigs.length d2) L.sigs.length (L.sigs.flatMap Prt.enc))
    (o3 : W3.ownsRow W2.heap.size e3 4 (.slice A3 L.flanks.length d3) L.flanks.length (L.flanks.flatMap Flk.enc)) (o4 : W4.ownsRow W3.heap.size e4 3 (.slice A4 es.length d4) es.length (es.flatMap Ext'.enc))
    (q1 : Below X.heap.size X W1) (r2 : Below W1.heap.size W1 W2) (r3 : Below W2.heap.size W2 W3) (r4 : Below W3.heap.size W3 W4) :
    ∃ q B, Hid (OwnAt w.heap.size B L q ((((W4.setCell ⟨w.heap.size, 0, none⟩ (.slice A1 L.secs.length d1)).setCell ⟨w.heap.size, 1, none⟩ (.slice A2 L.sigs.length d2)).setCell ⟨w.heap.size, 3, none⟩ (.slice A3 L.flanks.length d3)).setCell ⟨w.heap.size, 2, none⟩ (.slice A4 es.length d4))) ∧
      Hid (ExOwn (w.heap.size + 1) B ((((W4.setCell ⟨w.heap.size, 0, none⟩ (.slice A1 L.secs.length d1)).setCell ⟨w.heap.size, 1, none⟩ (.slice A2 L.sigs.length d2)).setCell ⟨w.heap.size, 3, none⟩ (.slice A3 L.flanks.length d3)).setCell ⟨w.heap.size, 2, none⟩ (.slice A4 es.length d4)) q.a2 L.exits) ∧
      Hid (Below w.heap.size w ((((W4.setCell ⟨w.heap.size, 0, none⟩ (.slice A1 L.secs.length d1)).setCell ⟨w.heap.size, 1, none⟩ (.slice A2 L.sigs.length d2)).setCell ⟨w.heap.size, 3, none⟩ (.slice A3 L.flanks.length d3)).setCell ⟨w.heap.size, 2, none⟩ (.slice A4 es.length d4))) := by
  have q4 : Below X.heap.size X W4 := bchain (bchain (bchain q1 r2) r3) r4
  have z1 := q1.size
  have z2 := r2.size
  have z3 := r3.size
  have z4 := r4.size
  obtain ⟨s1, m1⟩ := row_own (enc := Sec.enc) (k := 11) (fun _ => rfl) (by decide) o1
  obtain ⟨s2, m2⟩ := row_own (enc := Prt.enc) (k := 2) (fun _ => rfl) (by decide) o2
  obtain ⟨s3, m3⟩ := row_own (enc := Flk.enc) (k := 4) (fun _ => rfl) (by decide) o3
  obtain ⟨s4, m4⟩ := row_own (enc := Ext'.enc) (k := 3) (fun _ => rfl) (by decide) o4
  have t1 := atB_of (z := w.heap.size + 1) (B' := W3.heap.size) s1 (by omega) (bchain (bchain r2 r3) r4) (by omega)
  have t2 := atB_of (z := w.heap.size + 1) (B' := W3.heap.size) s2 (by omega) (bchain r3 r4) (by omega)
  have t3 := atB_of (z := w.heap.size + 1) (B' := W3.heap.size) s3 (by omega) r4 (by omega)
  have h4 : ∀ (i : Nat) (v : Value), (L.cells p)[i]? = some v → W4.cell? ⟨w.heap.size, i, none⟩ = some v := fun i v h => (q4.cell (p := ⟨w.heap.size, i, none⟩) (by dsimp only; omega)).trans (cX i v h)
  have k0 := h4 0 _ rfl
  have k1 : (W4.setCell ⟨w.heap.size, 0, none⟩ (.slice A1 L.secs.length d1)).cell? ⟨w.heap.size, 1, none⟩ = _ := (World.cell?_setCell_other _ _ _ _ (by simp)).trans (h4 1 _ rfl)
  have k3 : ((W4.setCell ⟨w.heap.size, 0, none⟩ (.slice A1 L.secs.length d1)).setCell ⟨w.heap.size, 1, none⟩ (.slice A2 L.sigs.length d2)).cell? ⟨w.heap.size, 3, none⟩ = _ := (World.cell?_setCell_other _ _ _ _ (by simp)).trans ((World.cell?_setCell_other _ _ _ _ (by simp)).trans (h4 3 _ rfl))
  have k2 : (((W4.setCell ⟨w.heap.size, 0, none⟩ (.slice A1 L.secs.length d1)).setCell ⟨w.heap.size, 1, none⟩ (.slice A2 L.sigs.length d2)).setCell ⟨w.heap.size, 3, none⟩ (.slice A3 L.flanks.length d3)).cell? ⟨w.heap.size, 2, none⟩ = _ := (World.cell?_setCell_other _ _ _ _ (by simp)).trans ((World.cell?_setCell_other _ _ _ _ (by simp)).trans ((World.cell?_setCell_other _ _ _ _ (by simp)).trans (h4 2 _ rfl)))
  have hV : Below w.heap.size w ((((W4.setCell ⟨w.heap.size, 0, none⟩ (.slice A1 L.secs.length d1)).setCell ⟨w.heap.size, 1, none⟩ (.slice A2 L.sigs.length d2)).setCell ⟨w.heap.size, 3, none⟩ (.slice A3 L.flanks.length d3)).setCell ⟨w.heap.size, 2, none⟩ (.slice A4 es.length d4)) :=
    ((((bchain hX q4).setCell (p := ⟨w.heap.size, 0, none⟩) (Nat.le_refl _) _).setCell (p := ⟨w.heap.size, 1, none⟩) (Nat.le_refl _) _).setCell (p := ⟨w.heap.size, 3, none⟩) (Nat.le_refl _) _).setCell (p := ⟨w.heap.size, 2, none⟩) (Nat.le_refl _) _
  refine ⟨⟨A1, A2, A4, A3, d1, d2, d4, d3⟩, W3.heap.size, Lib.hid ⟨by omega, by simp only [World.setCell, Array.size_modify]; exact z4, ?_, ?_, ?_, m1, m2, by rw [hlen] at m4; exact m4, m3, ?_, ?_, ?_⟩, Lib.hid ?_, Lib.hid hV⟩
  · exact (((t1.setn (by omega)).setn (by omega)).setn (by omega)).setn (by omega)
  · exact (((t2.setn (by omega)).setn (by omega)).setn (by omega)).setn (by omega)
  · exact (((t3.setn (by omega)).setn (by omega)).setn (by omega)).setn (by omega)
  · intro i v h
    obtain rfl | rfl | rfl | rfl | hi : i = 0 ∨ i = 1 ∨ i = 2 ∨ i = 3 ∨ 4 ≤ i := by omega
    · rw [World.cell?_setCell_other _ _ _ _ (by simp), World.cell?_setCell_other _ _ _ _ (by simp), World.cell?_setCell_other _ _ _ _ (by simp), World.cell?_setCell_same _ _ _ k0]
      exact h
    · rw [World.cell?_setCell_other _ _ _ _ (by simp), World.cell?_setCell_other _ _ _ _ (by simp), World.cell?_setCell_same _ _ _ k1]
      exact h
    · rw [World.cell?_setCell_same _ _ _ k2, hlen]
      exact h
    · rw [World.cell?_setCell_other _ _ _ _ (by simp), World.cell?_setCell_same _ _ _ k3]
      exact h
    · obtain ⟨j, rfl⟩ : ∃ j, i = j + 4 := ⟨i - 4, by omega⟩
      rw [World.cell?_setCell_other _ _ _ _ (by simp), World.cell?_setCell_other _ _ _ _ (by simp), World.cell?_setCell_other _ _ _ _ (by simp), World.cell?_setCell_other _ _ _ _ (by simp)]
      exact h4 _ v (by simpa [Lay.cells] using h)
  · intro o
    rw [World.frozen?_setCell, World.frozen?_setCell, World.frozen?_setCell, World.frozen?_setCell]
    exact (q4.frozen (p := ⟨w.heap.size + 1, o, none⟩) (by dsimp only; omega)).trans (fX o)
  · intro i v h
    rw [World.cell?_setCell_far _ _ _ _ (by simp), World.cell?_setCell_far _ _ _ _ (by simp), World.cell?_setCell_far _ _ _ _ (by simp), World.cell?_setCell_far _ _ _ _ (by simp)]
    exact (q4.cell (p := ⟨w.heap.size + 1, i, none⟩) (by dsimp only; omega)).trans (zX i v h)
  · rcases s4 with s4 | ⟨g, rfl, h1, h2, h3⟩
    · subst s4
      exact .inl hes.symm
    · refine .inr ⟨g, es, rfl, h1, hes, (((h2.set (by omega)).set (by omega)).set (by omega)).set (by omega), fun e he => ?_, fun o => ?_⟩
      · obtain ⟨A, c, e1, h5, h6, h7⟩ := hov e he
        refine ⟨A, c, e1, h5, h6, ?_⟩
        rcases h7 with h7 | ⟨b, off, e2, h8⟩
        · exact .inl h7
        · have := h8.1
          exact .inr ⟨b, off, e2, by omega, by omega, h8.below hV⟩
      · rw [World.frozen?_setCell, World.frozen?_setCell, World.frozen?_setCell, World.frozen?_setCell]
        exact h3 o

def OwnOf (L : Lay) (w : World) (e : Ending) (w' : World) : Prop := ∃ p', e = .returned (L.val p') ∧ LayAt w' p' L ∧ Below w.heap.size w w'

set_option maxRecDepth 100000 in
set_option maxHeartbeats 16000000 in
theorem ownLay_any (L : Lay) (p : Where) (w : World) (hL : LayAt w p L) (hf : Few L) : Calls Tryd.prog 22 #[L.val p] w (OwnOf L w) := by
  have m0 : L.secs.length ≤ 9223372036854775807 := Nat.le_trans hL.l0.1 hL.l0.2
  have m1 : L.sigs.length ≤ 9223372036854775807 := Nat.le_trans hL.l1.1 hL.l1.2
  have m2 : L.exits.length ≤ 9223372036854775807 := Nat.le_trans hL.l2.1 hL.l2.2
  have m3 : L.flanks.length ≤ 9223372036854775807 := Nat.le_trans hL.l3.1 hL.l3.2
  have h0 : ∀ (X W : World), Below w.heap.size w X → Hid (Below X.heap.size X W) → Calls Tryd.prog 58 #[.slice p.a0 L.secs.length p.c0] W (CopyV 39 11 Sec.enc L.secs X W) := fun X W hX hW =>
    (cloneSection_any p.a0 p.c0 L.secs W (hL.secs.below (bchain hX hW.out)) hf.1).mono fun e w' h => copyV hW.out h
  have h1 : ∀ (X W : World), Below w.heap.size w X → Hid (Below X.heap.size X W) → Calls Tryd.prog 59 #[.slice p.a1 L.sigs.length p.c1] W (CopyV 50 2 Prt.enc L.sigs X W) := fun X W hX hW =>
    (cloneSignal_any p.a1 p.c1 L.sigs W (hL.sigs.below (bchain hX hW.out)) hf.2.1).mono fun e w' h => copyV hW.out h
  have h3 : ∀ (X W : World), Below w.heap.size w X → Hid (Below X.heap.size X W) → Calls Tryd.prog 60 #[.slice p.a3 L.flanks.length p.c3] W (CopyV 55 4 Flk.enc L.flanks X W) := fun X W hX hW =>
    (cloneFlank_any p.a3 p.c3 L.flanks W (hL.flanks.below (bchain hX hW.out)) hf.2.2.2.1).mono fun e w' h => copyV hW.out h
  obtain ⟨es, hes, hAt, hov⟩ := hL.exits
  have hlen : es.length = L.exits.length := by rw [← hes, List.length_map]
  have h2 : ∀ (X W : World), Below w.heap.size w X → Hid (Below X.heap.size X W) → Calls Tryd.prog 61 #[.slice p.a2 L.exits.length p.c2] W (CopyV 53 3 Ext'.enc es X W) := fun X W hX hW => by
    have h := cloneExit_any p.a2 p.c2 es W (hAt.below (bchain hX hW.out)) (by rw [hlen]; exact hf.2.2.1) (fun e he => by obtain ⟨A, c, h, _⟩ := hov e he; exact ⟨A, _, c, h⟩)
    rw [hlen] at h
    exact h.mono fun e w' h => copyV hW.out h
  obtain ⟨a0, a1, a2, a3, p0, p1, p2, p3⟩ := p
  dsimp only at h0 h1 h2 h3
  unfold Lay.val
  have H0 := Lib.hid h0
  have H1 := Lib.hid h1
  have H2 := Lib.hid h2
  have H3 := Lib.hid h3
  have HE := Lib.hid (⟨hes, hov, hlen⟩ : _ ∧ _ ∧ _)
  have HF := Lib.hid hf
  have HL := Lib.hid hL
  clear h0 h1 h2 h3 hes hov hlen hf hL hAt
  go_enter Tryd.func22, Tryd.ntmps22
  go_upto_region 1 with fail
  obtain ⟨X, hX⟩ : ∃ X, X = (w.alloc (.cells #[.slice a0 L.secs.length p0, .slice a1 L.sigs.length p1, .slice a2 L.exits.length p2, .slice a3 L.flanks.length p3, .int .i64 L.t0, .int .i64 L.t1, .int .i64 L.t2, .int .i64 L.t3, .int .i64 L.t4, .int .i64 L.t5, .int .i64 L.t6] 29)).alloc (.cells #[.slice none 0 0, .slice none 0 0, .slice none 0 0, .slice none 0 0, .int .i64 0, .int .i64 0, .int .i64 0, .int .i64 0, .int .i64 0, .int .i64 0, .int .i64 0] 29) := ⟨_, rfl⟩
  have c0 : X.cell? ⟨w.heap.size, 0, none⟩ = some (.slice a0 L.secs.length p0) := by rw [hX]; simp [go_sem]
  have c1 : X.cell? ⟨w.heap.size, 1, none⟩ = some (.slice a1 L.sigs.length p1) := by rw [hX]; simp [go_sem]
  have c2 : X.cell? ⟨w.heap.size, 2, none⟩ = some (.slice a2 L.exits.length p2) := by rw [hX]; simp [go_sem]
  have c3 : X.cell? ⟨w.heap.size, 3, none⟩ = some (.slice a3 L.flanks.length p3) := by rw [hX]; simp [go_sem]
  have lX : w.heap.size < X.heap.size := by rw [hX]; simp <;> omega
  have fX : ∀ o, X.frozen? ⟨w.heap.size, o, none⟩ = false := by intro o; rw [hX]; simp [go_sem]
  have HX := Lib.hid (show Below w.heap.size w X by rw [hX]; exact bchain bself bself)
  have cXX : Hid (∀ (i : Nat) (v : Value), (L.cells ⟨a0, a1, a2, a3, p0, p1, p2, p3⟩)[i]? = some v → X.cell? ⟨w.heap.size, i, none⟩ = some v) := Lib.hid (by
    intro i v h
    rw [hX, World.cell?_alloc_past _ _ _ (by simp), World.cell?_alloc_at _ _ _ _ rfl]
    simpa [Lay.cells] using h)
  have zXX : Hid (∀ (i : Nat) (v : Value), zeroLay[i]? = some v → X.cell? ⟨w.heap.size + 1, i, none⟩ = some v) := Lib.hid (by
    intro i v h
    rw [hX, World.cell?_alloc_at _ _ _ _ (by simp)]
    simpa [zeroLay] using h)
  have fzX : Hid (∀ o, X.frozen? ⟨w.heap.size + 1, o, none⟩ = false) := Lib.hid (by intro o; rw [hX]; simp [go_sem])
  have sX : Hid (X.heap.size = w.heap.size + 2) := Lib.hid (by rw [hX]; simp)
  rw [← hX]
  have q0 : Hid (Below X.heap.size X X.drew) := Lib.hid ((Below.refl _ _).drew)
  clear hX
  go_cut [] (fun w' => ∃ q B, Hid (OwnAt w.heap.size B L q w') ∧ Hid (ExOwn (w.heap.size + 1) B w' q.a2 L.exits) ∧ Hid (Below w.heap.size w w'))
  case first =>
    refine wp_region_head 13 (fun W => W.cell? ⟨w.heap.size, 0, none⟩ = some (.slice a0 L.secs.length p0) ∧ W.cell? ⟨w.heap.size, 1, none⟩ = some (.slice a1 L.sigs.length p1) ∧ W.cell? ⟨w.heap.size, 2, none⟩ = some (.slice a2 L.exits.length p2) ∧ W.cell? ⟨w.heap.size, 3, none⟩ = some (.slice a3 L.flanks.length p3) ∧ Hid (Below X.heap.size X W)) (by kernel_rfl) (by kernel_rfl) (by kernel_rfl) (by kernel_rfl) (by kernel_rfl) (by kernel_rfl) ⟨c0, c1, c2, c3, q0⟩ (fun hHeld => ?_)
    simp only [List.take_succ_cons, List.take_zero, List.drop_succ_cons, List.drop_zero]
    have keep : ∀ W : World, Hid (Below X.heap.size X W) → W.cell? ⟨w.heap.size, 0, none⟩ = some (.slice a0 L.secs.length p0) ∧ W.cell? ⟨w.heap.size, 1, none⟩ = some (.slice a1 L.sigs.length p1) ∧ W.cell? ⟨w.heap.size, 2, none⟩ = some (.slice a2 L.exits.length p2) ∧ W.cell? ⟨w.heap.size, 3, none⟩ = some (.slice a3 L.flanks.length p3) ∧ Hid (Below X.heap.size X W) := fun W h =>
      ⟨(h.out.cell (p := ⟨w.heap.size, 0, none⟩) lX).trans c0, (h.out.cell (p := ⟨w.heap.size, 1, none⟩) lX).trans c1, (h.out.cell (p := ⟨w.heap.size, 2, none⟩) lX).trans c2, (h.out.cell (p := ⟨w.heap.size, 3, none⟩) lX).trans c3, h⟩
    refine wpAnyH_take (i := 0) (v := .pointer (some ⟨w.heap.size, 0, none⟩)) rfl (by kernel_rfl) (by kernel_rfl) (by kernel_rfl) (fun _ _ _ h => h) (Or.inl ⟨by rfl, by (intro W hS; (try dsimp only at hS); go_simp)⟩) hHeld ?_
    try simp only [Act.put, List.setIfInBounds_toArray]
    refine wpAnyH_take (i := 1) (v := .slice a0 L.secs.length p0) rfl (by kernel_rfl) (by kernel_rfl) (by kernel_rfl) (fun _ _ _ h => h) (Or.inl ⟨by rfl, by (intro W hS; (try dsimp only at hS); go_simp)⟩) hHeld ?_
    try simp only [Act.put]
    refine wpAnyH_take (i := 3) (v := .pointer (some ⟨w.heap.size, 1, none⟩)) rfl (by kernel_rfl) (by kernel_rfl) (by kernel_rfl) (fun _ _ _ h => h) (Or.inl ⟨by rfl, by (intro W hS; (try dsimp only at hS); go_simp)⟩) hHeld ?_
    try simp only [Act.put]
    refine wpAnyH_take (i := 4) (v := .slice a1 L.sigs.length p1) rfl (by kernel_rfl) (by kernel_rfl) (by kernel_rfl) (fun _ _ _ h => h) (Or.inl ⟨by rfl, by (intro W hS; (try dsimp only at hS); go_simp)⟩) hHeld ?_
    try simp only [Act.put]
    refine wpAnyH_take (i := 6) (v := .pointer (some ⟨w.heap.size, 3, none⟩)) rfl (by kernel_rfl) (by kernel_rfl) (by kernel_rfl) (fun _ _ _ h => h) (Or.inl ⟨by rfl, by (intro W hS; (try dsimp only at hS); go_simp)⟩) hHeld ?_
    try simp only [Act.put]
    refine wpAnyH_take (i := 7) (v := .slice a3 L.flanks.length p3) rfl (by kernel_rfl) (by kernel_rfl) (by kernel_rfl) (fun _ _ _ h => h) (Or.inl ⟨by rfl, by (intro W hS; (try dsimp only at hS); go_simp)⟩) hHeld ?_
    try simp only [Act.put]
    refine wpAnyH_take (i := 9) (v := .pointer (some ⟨w.heap.size, 2, none⟩)) rfl (by kernel_rfl) (by kernel_rfl) (by kernel_rfl) (fun _ _ _ h => h) (Or.inl ⟨by rfl, by (intro W hS; (try dsimp only at hS); go_simp)⟩) hHeld ?_
    try simp only [Act.put]
    refine wpAnyH_take (i := 10) (v := .slice a2 L.exits.length p2) rfl (by kernel_rfl) (by kernel_rfl) (by kernel_rfl) (fun _ _ _ h => h) (Or.inl ⟨by rfl, by (intro W hS; (try dsimp only at hS); go_simp)⟩) hHeld ?_
    try simp only [Act.put]
    refine wpAnyH_ready (rs := [2]) (by kernel_rfl) (by simp) ?_
    refine AllReadyH.cons rfl (fun K hK => ?_) AllReadyH.nil
    go_simp
    go_at_call 58
    refine (H0.out _ _ HX.out q0).mono ?_
    rintro e W1 ⟨A1, d1, rfl, o1, r1, q1⟩
    (try dsimp only)
    refine hK.out _ _ (keep _ q1) (fun hHeld => ?_)
    clear hK K
    try simp only [Act.put, List.setIfInBounds_toArray, List.set_cons_zero, List.set_cons_succ]
    refine wpAnyH_take (i := 12) (v := .pointer (some ⟨w.heap.size, 0, none⟩)) rfl (by kernel_rfl) (by kernel_rfl) (by kernel_rfl) (fun _ _ _ h => h) (Or.inl ⟨by rfl, by (intro W hS; (try dsimp only at hS); go_simp)⟩) hHeld ?_
    try simp only [Act.put, List.setIfInBounds_toArray]
    refine wpAnyH_ready (rs := [5]) (by kernel_rfl) (by simp) ?_
    refine AllReadyH.cons rfl (fun K hK => ?_) AllReadyH.nil
    go_simp
    go_at_call 59
    refine (H1.out _ _ HX.out q1).mono ?_
    rintro e W2 ⟨A2, d2, rfl, o2, r2, q2⟩
    (try dsimp only)
    refine hK.out _ _ (keep _ q2) (fun hHeld => ?_)
    clear hK K
    try simp only [Act.put, List.setIfInBounds_toArray, List.set_cons_zero, List.set_cons_succ]
    refine wpAnyH_ready (rs := [8]) (by kernel_rfl) (by simp) ?_
    refine AllReadyH.cons rfl (fun K hK => ?_) AllReadyH.nil
    go_simp
    go_at_call 60
    refine (H3.out _ _ HX.out q2).mono ?_
    rintro e W3 ⟨A3, d3, rfl, o3, r3, q3⟩
    (try dsimp only)
    refine hK.out _ _ (keep _ q3) (fun hHeld => ?_)
    clear hK K
    try simp only [Act.put, List.setIfInBounds_toArray, List.set_cons_zero, List.set_cons_succ]
    refine wpAnyH_ready (rs := [11]) (by kernel_rfl) (by simp) ?_
    refine AllReadyH.cons rfl (fun K hK => ?_) AllReadyH.nil
    go_simp
    go_at_call 61
    refine (H2.out _ _ HX.out q3).mono ?_
    rintro e W4 ⟨A4, d4, rfl, o4, r4, q4⟩
    (try dsimp only)
    refine hK.out _ _ (keep _ q4) (fun hHeld => ?_)
    clear hK K
    try simp only [Act.put, List.setIfInBounds_toArray, List.set_cons_zero, List.set_cons_succ]
    refine wpAnyH_done (by kernel_rfl) ?_ _
    change wpList _ _ _ _ _ _
    have g0 := (keep _ q4)
    have f4 := fun (o : Nat) => (q4.out.frozen (p := ⟨w.heap.size, o, none⟩) lX).trans (fX o)
    have l4 : w.heap.size < W4.heap.size := Nat.lt_of_lt_of_le lX q4.out.size
    obtain ⟨s0, s1, s2, s3, _⟩ := g0
    clear hHeld keep c0 c1 c2 c3
    go_wp2_with fail
    go_meet
    obtain ⟨hes, hov, hlen⟩ := HE.out
    exact own_join HX.out sX.out cXX.out zXX.out fzX.out hes hov hlen o1.out o2.out o3.out o4.out q1.out r2.out r3.out r4.out
  case rest =>
    obtain ⟨⟨b0, b1, b2, b3, r0, r1, r2, r3⟩, B, HO, HEX, HW⟩ := hcut
    have hl2 := HO.out.l2
    dsimp only at hl2
    have ll : w.heap.size + 1 < B := HO.out.lt
    have lw : w.heap.size + 1 < wc.heap.size := Nat.lt_of_lt_of_le ll HO.out.le
    have lw0 : w.heap.size < wc.heap.size := by omega
    have k2 : wc.cell? ⟨w.heap.size, 2, none⟩ = some (.slice b2 L.exits.length r2) := HO.out.bx 2 _ rfl
    clear c0 c1 c2 c3 fX cXX zXX fzX sX
    go_wp2_with fail
    go_loopg [3, 4, 24] L.exits.length (fun gg _ _ s24 wr => ∃ n : Nat, n ≤ L.exits.length ∧ L.exits.length - n ≤ gg ∧ s24 = .int .i64 n ∧ Hid (Below B wc wr) ∧ Hid (ExOwn (w.heap.size + 1) B wr b2 L.exits))
    case atStart => exact ⟨0, Nat.zero_le _, by omega, rfl, Lib.hid (Below.refl _ _), HEX⟩
    case round =>
      obtain ⟨n, hn, hg, rfl, HB, HE'⟩ := hrel
      clear HEX
      have lwr : wc.heap.size ≤ wr.heap.size := HB.out.size
      have y2 := (HB.out.cell (p := ⟨w.heap.size, 2, none⟩) (by dsimp only; omega)).trans k2
      have lr0 : w.heap.size < wr.heap.size := by omega
      have lr1 : w.heap.size + 1 < wr.heap.size := by omega
      clear k2
      by_cases hlt : n < L.exits.length
      · obtain ⟨g, es', hAe, hgB, hes, hrow, hov, hfz⟩ : ∃ g es, b2 = some ⟨g, 0, none⟩ ∧ B ≤ g ∧ es.map (·.1) = L.exits ∧ RowAt' wr 3 Ext'.enc g 0 es ∧ (∀ e ∈ es, SlN g (w.heap.size + 1) wr 3 Stp.enc e.2 e.1.over) ∧ (∀ o, wr.frozen? ⟨g, o, none⟩ = false) := by
          rcases HE'.out with h | h
          · rw [h] at hlt; simp at hlt
          · exact h
        subst hAe
        have hlen : es'.length = L.exits.length := by rw [← hes, List.length_map]
        obtain ⟨y, hy⟩ : ∃ y, es'[n]? = some y := ⟨es'[n]'(by omega), List.getElem?_eq_getElem (by omega)⟩
        have z0 : wr.cell? ⟨g, n * 3, none⟩ = some (.int .i64 y.1.s) := by simpa using hrow.2 n y hy 0 _ rfl
        have z1 : wr.cell? ⟨g, n * 3 + 1, none⟩ = some (.int .i64 y.1.p) := by simpa using hrow.2 n y hy 1 _ rfl
        have z2 : wr.cell? ⟨g, n * 3 + 2, none⟩ = some y.2 := by simpa using hrow.2 n y hy 2 _ rfl
        have lg := hrow.1
        obtain ⟨vA, vc, ve, hvl, hvm, hva⟩ := (hov y (List.mem_of_getElem? hy)).sl
        have hmem : y.1 ∈ L.exits := by rw [← hes]; exact List.mem_map_of_mem (List.mem_of_getElem? hy)
        have hcl : ∀ W, Below wr.heap.size wr W → Calls Tryd.prog 62 #[.slice vA y.1.over.length vc] W (CopyV 33 3 Stp.enc y.1.over wr W) := fun W hW =>
          (cloneStep_any vA vc y.1.over W (hva.below hW) (HF.out.2.2.2.2 y.1 hmem)).mono fun e w' h => copyV hW h
        rw [ve] at z2
        obtain ⟨es1, he1⟩ : ∃ x, x = y.1.s := ⟨_, rfl⟩
        obtain ⟨ep1, he2⟩ : ∃ x, x = y.1.p := ⟨_, rfl⟩
        obtain ⟨m, hm⟩ : ∃ x, x = y.1.over.length := ⟨_, rfl⟩
        rw [← he1] at z0
        rw [← he2] at z1
        rw [← hm] at z2 hcl
        have HCL := Lib.hid hcl
        have HY := Lib.hid (⟨hes, hrow, hov, hfz, hlen, hy, hm⟩ : _ ∧ _ ∧ _ ∧ _ ∧ _ ∧ _ ∧ _)
        clear hcl hes hrow hov hlen hy hva hvl hvm ve he1 he2 hm hmem HE'
        go_upto_region 5 with fail
        obtain ⟨Y, hY⟩ : ∃ Y, Y = wr.alloc (.cells #[.int .i64 es1, .int .i64 ep1, .slice vA m vc] 53) := ⟨_, rfl⟩
        have y4 : Y.cell? ⟨wr.heap.size, 2, none⟩ = some (.slice vA m vc) := by rw [hY]; simp [go_sem]
        have lY : wr.heap.size < Y.heap.size := by rw [hY]; simp
        have hYB : Below wr.heap.size wr Y := by rw [hY]; exact bself
        rw [← hY]
        have q0 : Hid (Below wr.heap.size wr Y.drew) := Lib.hid hYB.drew
        have x2 := (hYB.cell (p := ⟨w.heap.size, 2, none⟩) lr0).trans y2
        have xz := (hYB.cell (p := ⟨g, n * 3 + 2, none⟩) lg).trans z2
        have xf := (hYB.frozen (p := ⟨g, n * 3 + 2, none⟩) lg).trans (hfz _)
        have xl : w.heap.size < Y.heap.size := by omega
        have xg : g < Y.heap.size := by omega
        clear hY z0 z1 z2 y2 hYB
        go_region_with (first
          | (go_at_call 62; refine (HCL.out _ q0.out).mono ?_; rintro e W1 ⟨A1, d1, rfl, o1, r1, q1⟩; have s2 := (q1.out.cell (p := ⟨w.heap.size, 2, none⟩) lr0).trans ((q0.out.cell (p := ⟨w.heap.size, 2, none⟩) lr0).symm.trans ((World.cell?_drew _ _).trans x2)); have s4 := (r1.out.cell (p := ⟨wr.heap.size, 2, none⟩) lY).trans y4; have sz := (r1.out.cell (p := ⟨g, n * 3 + 2, none⟩) xg).trans xz; have sf := (r1.out.frozen (p := ⟨g, n * 3 + 2, none⟩) xg).trans xf; have sl : w.heap.size < W1.heap.size := Nat.lt_of_lt_of_le xl r1.out.size; have sg : g < W1.heap.size := Nat.lt_of_lt_of_le xg r1.out.size))
        all_goals
          go_wp2
          go_roundg (L.exits.length - (n + 1))
          case measure => omega
          case rel =>
            refine ⟨n + 1, by omega, by omega, by go_num, Lib.hid (Below.setCell (HB.out.trans (q1.out.mono (Nat.le_trans HO.out.le lwr))) hgB _), Lib.hid ?_⟩
            obtain ⟨hes, hrow, hov, hfz', hlen, hy, hm⟩ := HY.out
            subst hm
            exact exOwn_set hgB hes hrow hov hfz' hy q1.out o1.out (by simpa using xg) (by simp; omega)
      · obtain rfl : n = L.exits.length := by omega
        have hrd : ∀ (i : Nat) (v : Value), (L.cells ⟨b0, b1, b2, b3, r0, r1, r2, r3⟩)[i]? = some v → wr.cell? ⟨w.heap.size, i, none⟩ = some v := fun i v hv => (HB.out.cell (p := ⟨w.heap.size, i, none⟩) (by dsimp only; omega)).trans (HO.out.bx i v hv)
        have hzr : ∀ (i : Nat) (v : Value), zeroLay[i]? = some v → wr.cell? ⟨w.heap.size + 1, i, none⟩ = some v := fun i v hv => (HB.out.cell (p := ⟨w.heap.size + 1, i, none⟩) ll).trans (HO.out.zc i v hv)
        have hzf : ∀ o, wr.frozen? ⟨w.heap.size + 1, o, none⟩ = false := fun o => (HB.out.frozen (p := ⟨w.heap.size + 1, o, none⟩) ll).trans (HO.out.zr o)
        have d0 := hrd 0 _ rfl
        have d1 := hrd 1 _ rfl
        have d3 := hrd 3 _ rfl
        have d4 := hrd 4 _ rfl
        have d5 := hrd 5 _ rfl
        have d6 := hrd 6 _ rfl
        have d7 := hrd 7 _ rfl
        have d8 := hrd 8 _ rfl
        have d9 := hrd 9 _ rfl
        have d10 := hrd 10 _ rfl
        have e0 := hzr 0 _ rfl
        have e1 := hzr 1 _ rfl
        have e2 := hzr 2 _ rfl
        have e3 := hzr 3 _ rfl
        have e4 := hzr 4 _ rfl
        have e5 := hzr 5 _ rfl
        have e6 := hzr 6 _ rfl
        have e7 := hzr 7 _ rfl
        have e8 := hzr 8 _ rfl
        have e9 := hzr 9 _ rfl
        have e10 := hzr 10 _ rfl
        have hBw : Below w.heap.size w wr := HW.out.trans (HB.out.mono (by omega))
        have HBW := Lib.hid hBw
        clear hrd hzr hBw
        go_wp2
        refine bodyPost_ret (v := L.val ⟨b0, b1, b2, b3, r0, r1, r2, r3⟩) (by simp [results, Tryd.results22, go_sem, *]) rfl ⟨_, rfl, ?lay, ?bel⟩
        case bel =>
          repeat refine Below.setCell ?_ (by dsimp only; omega) _
          exact HBW.out
        case lay =>
          have hS := HO.out.secs.below HB.out
          have hG := HO.out.sigs.below HB.out
          have hF := HO.out.flanks.below HB.out
          have hE := HE'.out
          refine ⟨?_, ?_, ?_, ?_, HO.out.l0, HO.out.l1, HO.out.l2, HO.out.l3, HL.out.kinds⟩
          · refine AtB.at (z := w.heap.size + 1) (B := B) ?_
            iterate 11 refine AtB.setz ?_
            exact hS
          · refine AtB.at (z := w.heap.size + 1) (B := B) ?_
            iterate 11 refine AtB.setz ?_
            exact hG
          · refine ExOwn.at (z := w.heap.size + 1) (B := B) ?_
            iterate 11 refine ExOwn.setz ll ?_
            exact hE
          · refine AtB.at (z := w.heap.size + 1) (B := B) ?_
            iterate 11 refine AtB.setz ?_
            exact hF
end Go.Proofs.YtkphihbimdffjaaDoor
