/-
  layout.Own.
-/
import Derived.Test.YtmnkgnoljllnnaaDoorM3
import Derived.Deep.DeepCutAuto
import Derived.Deep.RegionHeld3
import Derived.Deep.RegionWith

namespace Go.Proofs.YtmnkgnoljllnnaaDoor
open Go.RowKit Go.Shelf

theorem ownsRow_slice {B e size n : Nat} {W : World} {sv : Value} {xs : List Value} (h : W.ownsRow B e size sv n xs) : ∃ A c, sv = .slice A n c := by
  rcases h.2 with ⟨rfl, rfl⟩ | ⟨g', cap, cur, rfl, _⟩
  · exact ⟨_, _, rfl⟩
  · exact ⟨_, _, rfl⟩
/-- A layout of few of each. -/
def Few (L : Lay) : Prop := L.secs.length ≤ 1000 ∧ L.sigs.length ≤ 1000 ∧ L.exits.length ≤ 1000 ∧ L.flanks.length ≤ 1000 ∧ ∀ x ∈ L.exits, x.over.length ≤ 1000
/-- A copy comes back. -/
def CopyV {α : Type} (e : TypeId) (k : Nat) (enc : α → List Value) (xs : List α) (w0 w : World) (en : Ending) (w' : World) : Prop :=
  ∃ A c, en = .returned (.slice A xs.length c) ∧ Hid (w'.ownsRow w.heap.size e k (.slice A xs.length c) xs.length (xs.flatMap enc)) ∧ Hid (Below w.heap.size w w') ∧ Hid (Below w0.heap.size w0 w')
theorem copyV {α : Type} {e : TypeId} {k : Nat} {enc : α → List Value} {xs : List α} {w0 w : World} {en : Ending} {w' : World} (h0 : Below w0.heap.size w0 w) (h : CloneOf e k enc xs w en w') : CopyV e k enc xs w0 w en w' := by
  obtain ⟨v, he, ho, hb⟩ := h
  obtain ⟨A, c, rfl⟩ := ownsRow_slice ho
  exact ⟨A, c, he, Lib.hid ho, Lib.hid hb, Lib.hid (bchain h0 hb)⟩

/-- As At, the block between z and B. -/
def AtB {α : Type} (z B : Nat) (W : World) (k : Nat) (enc : α → List Value) (A : Option Addr) (xs : List α) : Prop :=
  xs = [] ∨ ∃ b off, A = some ⟨b, off, none⟩ ∧ (z < b ∧ b < B) ∧ RowAt' W k enc b off xs
theorem AtB.at {α : Type} {z B : Nat} {W : World} {k : Nat} {enc : α → List Value} {A : Option Addr} {xs : List α} (h : AtB z B W k enc A xs) : At W k enc A xs := by
  rcases h with h | ⟨b, off, e, _, h⟩
  · exact .inl h
  · exact .inr ⟨b, off, e, h⟩
theorem AtB.below {α : Type} {z B : Nat} {W W' : World} {k : Nat} {enc : α → List Value} {A : Option Addr} {xs : List α} (h : AtB z B W k enc A xs) (hb : Below B W W') : AtB z B W' k enc A xs := by
  rcases h with h | ⟨b, off, e, h1, h2, h3⟩
  · exact .inl h
  · exact .inr ⟨b, off, e, h1, Nat.lt_of_lt_of_le h2 hb.size, fun j x hx i v hv => (hb.cell (p := ⟨b, off + j * k + i, none⟩) h1.2).trans (h3 j x hx i v hv)⟩
/-- A slice that holds xs, in other blocks than g and z. -/
def SlN {α : Type} (g z : Nat) (W : World) (k : Nat) (enc : α → List Value) (v : Value) (xs : List α) : Prop :=
  ∃ A cap, v = .slice A xs.length cap ∧ xs.length ≤ cap ∧ cap ≤ maxLen ∧ (xs = [] ∨ ∃ b off, A = some ⟨b, off, none⟩ ∧ b ≠ g ∧ b ≠ z ∧ RowAt' W k enc b off xs)
theorem SlN.sl {α : Type} {g z : Nat} {W : World} {k : Nat} {enc : α → List Value} {v : Value} {xs : List α} (h : SlN g z W k enc v xs) : Sl W k enc v xs := by
  obtain ⟨A, c, e, h1, h2, h3⟩ := h
  refine ⟨A, c, e, h1, h2, ?_⟩
  rcases h3 with h3 | ⟨b, off, e, _, _, h⟩
  · exact .inl h3
  · exact .inr ⟨b, off, e, h⟩
theorem SlN.below {α : Type} {g z : Nat} {W W' : World} {k : Nat} {enc : α → List Value} {v : Value} {xs : List α} (h : SlN g z W k enc v xs) (hb : Below W.heap.size W W') : SlN g z W' k enc v xs := by
  obtain ⟨A, c, e, h1, h2, h3⟩ := h
  refine ⟨A, c, e, h1, h2, ?_⟩
  rcases h3 with h3 | ⟨b, off, e, hn, hz, h⟩
  · exact .inl h3
  · exact .inr ⟨b, off, e, hn, hz, h.below hb⟩
theorem RowAt'.set {α : Type} {g o : Nat} {u : Value} {W : World} {k : Nat} {enc : α → List Value} {b off : Nat} {xs : List α} (h : RowAt' W k enc b off xs) (hn : b ≠ g) : RowAt' (W.setCell ⟨g, o, none⟩ u) k enc b off xs :=
  ⟨by simpa [World.setCell] using h.1, fun j x hx i v hv => (World.cell?_of_block (w := W) (a := ⟨b, off + j * k + i, none⟩) (Below.heap_setCell _ _ _ _ hn)).trans (h.2 j x hx i v hv)⟩
theorem SlN.set {α : Type} {g z o : Nat} {u : Value} {W : World} {k : Nat} {enc : α → List Value} {v : Value} {xs : List α} (h : SlN g z W k enc v xs) : SlN g z (W.setCell ⟨g, o, none⟩ u) k enc v xs := by
  obtain ⟨A, c, e, h1, h2, h3⟩ := h
  refine ⟨A, c, e, h1, h2, ?_⟩
  rcases h3 with h3 | ⟨b, off, e, hn, hz, h⟩
  · exact .inl h3
  · exact .inr ⟨b, off, e, hn, hz, h.set hn⟩
theorem SlN.setz {α : Type} {g z o : Nat} {u : Value} {W : World} {k : Nat} {enc : α → List Value} {v : Value} {xs : List α} (h : SlN g z W k enc v xs) : SlN g z (W.setCell ⟨z, o, none⟩ u) k enc v xs := by
  obtain ⟨A, c, e, h1, h2, h3⟩ := h
  refine ⟨A, c, e, h1, h2, ?_⟩
  rcases h3 with h3 | ⟨b, off, e, hn, hz, h⟩
  · exact .inl h3
  · exact .inr ⟨b, off, e, hn, hz, h.set hz⟩
theorem AtB.setz {α : Type} {z B o : Nat} {u : Value} {W : World} {k : Nat} {enc : α → List Value} {A : Option Addr} {xs : List α} (h : AtB z B W k enc A xs) : AtB z B (W.setCell ⟨z, o, none⟩ u) k enc A xs := by
  rcases h with h | ⟨b, off, e, h1, h2⟩
  · exact .inl h
  · exact .inr ⟨b, off, e, h1, h2.set (by omega)⟩
/-- The exits' row, Own's own. -/
def ExOwn (z B : Nat) (W : World) (A : Option Addr) (xs : List Ext') : Prop :=
  xs = [] ∨ ∃ g es, A = some ⟨g, 0, none⟩ ∧ B ≤ g ∧ es.map (·.1) = xs ∧ RowAt' W 3 Ext'.enc g 0 es ∧ (∀ e ∈ es, SlN g z W 3 Stp.enc e.2 e.1.over) ∧ (∀ o, W.frozen? ⟨g, o, none⟩ = false)
theorem ExOwn.below {z B : Nat} {W W' : World} {A : Option Addr} {xs : List Ext'} (h : ExOwn z B W A xs) (hb : Below W.heap.size W W') : ExOwn z B W' A xs := by
  rcases h with h | ⟨g, es, e, h1, h2, h3, h4, h5⟩
  · exact .inl h
  · exact .inr ⟨g, es, e, h1, h2, h3.below hb, fun y hy => (h4 y hy).below hb, fun o => (hb.frozen (p := ⟨g, o, none⟩) h3.1).trans (h5 o)⟩
theorem ExOwn.at {z B : Nat} {W : World} {A : Option Addr} {xs : List Ext'} (h : ExOwn z B W A xs) : ExAt W A xs := by
  rcases h with h | ⟨g, es, e, h1, h2, h3, h4, h5⟩
  · subst h
    exact ⟨[], rfl, .inl rfl, fun e he => by cases he⟩
  · exact ⟨es, h2, .inr ⟨_, _, e, h3⟩, fun y hy => (h4 y hy).sl⟩
def zeroLay : List Value := [.slice none 0 0, .slice none 0 0, .slice none 0 0, .slice none 0 0, .int .i64 0, .int .i64 0, .int .i64 0, .int .i64 0, .int .i64 0, .int .i64 0, .int .i64 0]
theorem ExOwn.setz {z B o : Nat} {u : Value} {W : World} {A : Option Addr} {xs : List Ext'} (hz : z < B) (h : ExOwn z B W A xs) : ExOwn z B (W.setCell ⟨z, o, none⟩ u) A xs := by
  rcases h with h | ⟨g, es, e, h1, h2, h3, h4, h5⟩
  · exact .inl h
  · exact .inr ⟨g, es, e, h1, h2, h3.set (by omega), fun y hy => (h4 y hy).setz, fun p => by rw [World.frozen?_setCell]; exact h5 p⟩
/-- What Own holds behind its first statement. -/
structure OwnAt (n0 B : Nat) (L : Lay) (q : Where) (W : World) : Prop where
  lt : n0 + 1 < B
  le : B ≤ W.heap.size
  secs : AtB (n0 + 1) B W 11 Sec.enc q.a0 L.secs
  sigs : AtB (n0 + 1) B W 2 Prt.enc q.a1 L.sigs
  flanks : AtB (n0 + 1) B W 4 Flk.enc q.a3 L.flanks
  l0 : L.secs.length ≤ q.c0 ∧ q.c0 ≤ 9223372036854775807
  l1 : L.sigs.length ≤ q.c1 ∧ q.c1 ≤ 9223372036854775807
  l2 : L.exits.length ≤ q.c2 ∧ q.c2 ≤ 9223372036854775807
  l3 : L.flanks.length ≤ q.c3 ∧ q.c3 ≤ 9223372036854775807
  bx : ∀ (i : Nat) (v : Value), (L.cells q)[i]? = some v → W.cell? ⟨n0, i, none⟩ = some v
  zr : ∀ o, W.frozen? ⟨n0 + 1, o, none⟩ = false
  zc : ∀ (i : Nat) (v : Value), zeroLay[i]? = some v → W.cell? ⟨n0 + 1, i, none⟩ = some v

theorem row_set {W : World} {g n : Nat} {u : Value} {y : Ext' × Value} {es : List (Ext' × Value)} (h : RowAt' W 3 Ext'.enc g 0 es) (hy : es[n]? = some y) : RowAt' (W.setCell ⟨g, n * 3 + 2, none⟩ u) 3 Ext'.enc g 0 (es.set n (y.1, u)) := by
  have hn := (List.getElem?_eq_some_iff.1 hy).1
  have hz := h.2 n y hy 2 _ rfl
  rw [Nat.zero_add] at hz
  refine ⟨by simpa [World.setCell] using h.1, fun j x hx i v hv => ?_⟩
  have hi : i < 3 := (List.getElem?_eq_some_iff.1 hv).1
  by_cases hj : j = n
  · subst hj
    rw [List.getElem?_set_self hn] at hx
    obtain rfl := Option.some.inj hx
    have h3 : i = 0 ∨ i = 1 ∨ i = 2 := by omega
    rw [Nat.zero_add]
    rcases h3 with rfl | rfl | rfl
    · rw [World.cell?_setCell_other _ _ _ _ (by simp)]
      have := h.2 j y hy 0 v hv
      rwa [Nat.zero_add] at this
    · rw [World.cell?_setCell_other _ _ _ _ (by simp)]
      have := h.2 j y hy 1 v hv
      rwa [Nat.zero_add] at this
    · rw [World.cell?_setCell_same _ _ _ hz]
      exact hv
  · rw [List.getElem?_set_ne (Ne.symm hj)] at hx
    rw [World.cell?_setCell_other _ _ _ _ (by simp <;> omega)]
    exact h.2 j x hx i v hv
theorem slN_of_row {z : Nat} {α : Type} {enc : α → List Value} {k : Nat} (hk : ∀ x, (enc x).length = k) (h0 : 0 < k) {W : World} {B e g : Nat} {v : Value} {xs : List α} (h : W.ownsRow B e k v xs.length (xs.flatMap enc)) (hg : g < B) (hz : z < B) : SlN g z W k enc v xs := by
  have hs := at_of_row hk h0 h
  obtain ⟨A, c, e1, h1, h2, h3⟩ := hs
  refine ⟨A, c, e1, h1, h2, ?_⟩
  rcases h3 with h3 | ⟨b, off, e2, hr⟩
  · exact .inl h3
  · suffices hbB : B ≤ b from .inr ⟨b, off, e2, by omega, by omega, hr⟩
    subst e2 e1
    rcases h.2 with ⟨h4, _⟩ | ⟨g', cap, cur, h4, h5, _⟩
    · cases h4
    · cases h4
      omega
theorem exOwn_set {W W1 : World} {z B g n d : Nat} {A : Option Addr} {y : Ext' × Value} {es : List (Ext' × Value)} {xs : List Ext'} {b e : Nat} (hgB : B ≤ g) (hes : es.map (·.1) = xs) (hrow : RowAt' W 3 Ext'.enc g 0 es) (hov : ∀ t ∈ es, SlN g z W 3 Stp.enc t.2 t.1.over) (hfz : ∀ o, W.frozen? ⟨g, o, none⟩ = false)
    (hy : es[n]? = some y) (q : Below W.heap.size W W1) (ho : W1.ownsRow b e 3 (.slice A y.1.over.length d) y.1.over.length (y.1.over.flatMap Stp.enc)) (hb : g < b) (hzb : z < b) : ExOwn z B (W1.setCell ⟨g, n * 3 + 2, none⟩ (.slice A y.1.over.length d)) (some ⟨g, 0, none⟩) xs := by
  have hn := (List.getElem?_eq_some_iff.1 hy).1
  refine .inr ⟨g, es.set n (y.1, .slice A y.1.over.length d), rfl, hgB, ?_, row_set (hrow.below q) hy, fun t hz => ?_, fun o => ?_⟩
  · rw [← hes, List.map_set]
    apply List.ext_getElem?
    intro j
    by_cases hj : j = n
    · subst hj
      rw [List.getElem?_set_self (by simpa using hn), List.getElem?_map, hy]
      rfl
    · rw [List.getElem?_set_ne (Ne.symm hj)]
  · rcases List.mem_or_eq_of_mem_set hz with hz | rfl
    · exact ((hov t hz).below q).set
    · exact (slN_of_row (enc := Stp.enc) (k := 3) (fun _ => rfl) (by decide) ho hb hzb).set
  · rw [World.frozen?_setCell]
    exact (q.frozen (p := ⟨g, o, none⟩) hrow.1).trans (hfz o)

theorem row_own {α : Type} {enc : α → List Value} {k : Nat} (hk : ∀ x, (enc x).length = k) (h0 : 0 < k) {W : World} {B e : Nat} {A : Option Addr} {c : Nat} {xs : List α} (h : W.ownsRow B e k (.slice A xs.length c) xs.length (xs.flatMap enc)) :
    (xs = [] ∨ ∃ g, A = some ⟨g, 0, none⟩ ∧ B ≤ g ∧ RowAt' W k enc g 0 xs ∧ ∀ o, W.frozen? ⟨g, o, none⟩ = false) ∧ xs.length ≤ c ∧ c ≤ 9223372036854775807 := by
  obtain ⟨A', c', e1, h1, h2, h3⟩ := at_of_row hk h0 h
  cases e1
  refine ⟨?_, h1, by unfold maxLen at h2; omega⟩
  rcases h3 with h3 | ⟨b, off, rfl, hr⟩
  · exact .inl h3
  · rcases h.2 with ⟨h4, _⟩ | ⟨g', cap, cur, h4, h5, _⟩
    · cases h4
    · cases h4
      exact .inr ⟨_, rfl, h5, hr, fun o => h.frozenAt o⟩
theorem atB_of {α : Type} {enc : α → List Value} {k z B B' : Nat} {W W' : World} {A : Option Addr} {xs : List α} (h : xs = [] ∨ ∃ g, A = some ⟨g, 0, none⟩ ∧ B ≤ g ∧ RowAt' W k enc g 0 xs ∧ ∀ o, W.frozen? ⟨g, o, none⟩ = false)
    (hz : z < B) (hb : Below W.heap.size W W') (hB : W.heap.size ≤ B') : AtB z B' W' k enc A xs := by
  rcases h with h | ⟨g, e, h1, h2, _⟩
  · exact .inl h
  · exact .inr ⟨g, 0, e, ⟨by omega, Nat.lt_of_lt_of_le h2.1 hB⟩, h2.below hb⟩
theorem AtB.setn {α : Type} {z B g o : Nat} {u : Value} {W : World} {k : Nat} {enc : α → List Value} {A : Option Addr} {xs : List α} (hg : g ≤ z) (h : AtB z B W k enc A xs) : AtB z B (W.setCell ⟨g, o, none⟩ u) k enc A xs := by
  rcases h with h | ⟨b, off, e, h1, h2⟩
  · exact .inl h
  · exact .inr ⟨b, off, e, h1, h2.set (by omega)⟩
/-- Own's four rows are copied, and its box is filled. -/
theorem own_join {L : Lay} {p : Where} {w X W1 W2 W3 W4 : World} {es : List (Ext' × Value)} {A1 A2 A3 A4 : Option Addr} {d1 d2 d3 d4 e1 e2 e3 e4 : Nat} (hX : Below w.heap.size w X) (hs : X.heap.size = w.heap.size + 2)
    (cX : ∀ (i : Nat) (v : Value), (L.cells p)[i]? = some v → X.cell? ⟨w.heap.size, i, none⟩ = some v) (zX : ∀ (i : Nat) (v : Value), zeroLay[i]? = some v → X.cell? ⟨w.heap.size + 1, i, none⟩ = some v) (fX : ∀ o, X.frozen? ⟨w.heap.size + 1, o, none⟩ = false)
    (hes : es.map (·.1) = L.exits) (hov : ∀ e ∈ es, Sl w 3 Stp.enc e.2 e.1.over) (hlen : es.length = L.exits.length)
    (o1 : W1.ownsRow X.heap.size e1 11 (.slice A1 L.secs.length d1) L.secs.length (L.secs.flatMap Sec.enc)) (o2 : W2.ownsRow W1.heap.size e2 2 (.slice A2 L.sigs.length d2) L.sigs.length (L.sigs.flatMap Prt.enc))
    (o3 : W3.ownsRow W2.heap.size e3 4 (.slice A3 L.flanks.length d3) L.flanks.length (L.flanks.flatMap Flk.enc)) (o4 : W4.ownsRow W3.heap.size e4 3 (.slice A4 es.length d4) es.length (es.flatMap Ext'.enc))
    (q1 : Below X.heap.size X W1) (r2 : Below W1.heap.size W1 W2) (r3 : Below W2.heap.size W2 W3) (r4 : Below W3.heap.size W3 W4) :
    ∃ q B, Hid (OwnAt w.heap.size B L q ((((W4.setCell ⟨w.heap.size, 0, none⟩ (.slice A1 L.secs.length d1)).setCell ⟨w.heap.size, 1, none⟩ (.slice A2 L.sigs.length d2)).setCell ⟨w.heap.size, 3, none⟩ (.slice A3 L.flanks.length d3)).setCell ⟨w.heap.size, 2, none⟩ (.slice A4 es.length d4))) ∧
      Hid (ExOwn (w.heap.size + 1) B ((((W4.setCell ⟨w.heap.size, 0, none⟩ (.slice A1 L.secs.length d1)).setCell ⟨w.heap.size, 1, none⟩ (.slice A2 L.sigs.length d2)).setCell ⟨w.heap.size, 3, none⟩ (.slice A3 L.flanks.length d3)).setCell ⟨w.heap.size, 2, none⟩ (.slice A4 es.length d4)) q.a2 L.exits) ∧
      Hid (Below w.heap.size w ((((W4.setCell ⟨w.heap.size, 0, none⟩ (.slice A1 L.secs.length d1)).setCell ⟨w.heap.size, 1, none⟩ (.slice A2 L.sigs.length d2)).setCell ⟨w.heap.size, 3, none⟩ (.slice A3 L.flanks.length d3)).setCell ⟨w.heap.size, 2, none⟩ (.slice A4 es.length d4))) := by
  have q4 : Below X.heap.size X W4 := bchain (bchain (bchain q1 r2) r3) r4
  have z1 := q1.size
  have z2 := r2.size
  have z3 := r3.size
  have z4 := r4.size
  obtain ⟨s1, m1⟩ := row_own (enc := Sec.enc) (k := 11) (fun _ => rfl) (by decide) o1
  obtain ⟨s2, m2⟩ := row_own (enc := Prt.enc) (k := 2) (fun _ => rfl) (by decide) o2
  obtain ⟨s3, m3⟩ := row_own (enc := Flk.enc) (k := 4) (fun _ => rfl) (by decide) o3
  obtain ⟨s4, m4⟩ := row_own (enc := Ext'.enc) (k := 3) (fun _ => rfl) (by decide) o4
  have t1 := atB_of (z := w.heap.size + 1) (B' := W3.heap.size) s1 (by omega) (bchain (bchain r2 r3) r4) (by omega)
  have t2 := atB_of (z := w.heap.size + 1) (B' := W3.heap.size) s2 (by omega) (bchain r3 r4) (by omega)
  have t3 := atB_of (z := w.heap.size + 1) (B' := W3.heap.size) s3 (by omega) r4 (by omega)
  have h4 : ∀ (i : Nat) (v : Value), (L.cells p)[i]? = some v → W4.cell? ⟨w.heap.size, i, none⟩ = some v := fun i v h => (q4.cell (p := ⟨w.heap.size, i, none⟩) (by dsimp only; omega)).trans (cX i v h)
  have k0 := h4 0 _ rfl
  have k1 : (W4.setCell ⟨w.heap.size, 0, none⟩ (.slice A1 L.secs.length d1)).cell? ⟨w.heap.size, 1, none⟩ = _ := (World.cell?_setCell_other _ _ _ _ (by simp)).trans (h4 1 _ rfl)
  have k3 : ((W4.setCell ⟨w.heap.size, 0, none⟩ (.slice A1 L.secs.length d1)).setCell ⟨w.heap.size, 1, none⟩ (.slice A2 L.sigs.length d2)).cell? ⟨w.heap.size, 3, none⟩ = _ := (World.cell?_setCell_other _ _ _ _ (by simp)).trans ((World.cell?_setCell_other _ _ _ _ (by simp)).trans (h4 3 _ rfl))
  have k2 : (((W4.setCell ⟨w.heap.size, 0, none⟩ (.slice A1 L.secs.length d1)).setCell ⟨w.heap.size, 1, none⟩ (.slice A2 L.sigs.length d2)).setCell ⟨w.heap.size, 3, none⟩ (.slice A3 L.flanks.length d3)).cell? ⟨w.heap.size, 2, none⟩ = _ := (World.cell?_setCell_other _ _ _ _ (by simp)).trans ((World.cell?_setCell_other _ _ _ _ (by simp)).trans ((World.cell?_setCell_other _ _ _ _ (by simp)).trans (h4 2 _ rfl)))
  have hV : Below w.heap.size w ((((W4.setCell ⟨w.heap.size, 0, none⟩ (.slice A1 L.secs.length d1)).setCell ⟨w.heap.size, 1, none⟩ (.slice A2 L.sigs.length d2)).setCell ⟨w.heap.size, 3, none⟩ (.slice A3 L.flanks.length d3)).setCell ⟨w.heap.size, 2, none⟩ (.slice A4 es.length d4)) :=
    ((((bchain hX q4).setCell (p := ⟨w.heap.size, 0, none⟩) (Nat.le_refl _) _).setCell (p := ⟨w.heap.size, 1, none⟩) (Nat.le_refl _) _).setCell (p := ⟨w.heap.size, 3, none⟩) (Nat.le_refl _) _).setCell (p := ⟨w.heap.size, 2, none⟩) (Nat.le_refl _) _
  refine ⟨⟨A1, A2, A4, A3, d1, d2, d4, d3⟩, W3.heap.size, Lib.hid ⟨by omega, by simp only [World.setCell, Array.size_modify]; exact z4, ?_, ?_, ?_, m1, m2, by rw [hlen] at m4; exact m4, m3, ?_, ?_, ?_⟩, Lib.hid ?_, Lib.hid hV⟩
  · exact (((t1.setn (by omega)).setn (by omega)).setn (by omega)).setn (by omega)
  · exact (((t2.setn (by omega)).setn (by omega)).setn (by omega)).setn (by omega)
  · exact (((t3.setn (by omega)).setn (by omega)).setn (by omega)).setn (by omega)
  · intro i v h
    obtain rfl | rfl | rfl | rfl | hi : i = 0 ∨ i = 1 ∨ i = 2 ∨ i = 3 ∨ 4 ≤ i := by omega
    · rw [World.cell?_setCell_other _ _ _ _ (by simp), World.cell?_setCell_other _ _ _ _ (by simp), World.cell?_setCell_other _ _ _ _ (by simp), World.cell?_setCell_same _ _ _ k0]
      exact h
    · rw [World.cell?_setCell_other _ _ _ _ (by simp), World.cell?_setCell_other _ _ _ _ (by simp), World.cell?_setCell_same _ _ _ k1]
      exact h
    · rw [World.cell?_setCell_same _ _ _ k2, hlen]
      exact h
    · rw [World.cell?_setCell_other _ _ _ _ (by simp), World.cell?_setCell_same _ _ _ k3]
      exact h
    · obtain ⟨j, rfl⟩ : ∃ j, i = j + 4 := ⟨i - 4, by omega⟩
      rw [World.cell?_setCell_other _ _ _ _ (by simp), World.cell?_setCell_other _ _ _ _ (by simp), World.cell?_setCell_other _ _ _ _ (by simp), World.cell?_setCell_other _ _ _ _ (by simp)]
      exact h4 _ v (by simpa [Lay.cells] using h)
  · intro o
    rw [World.frozen?_setCell, World.frozen?_setCell, World.frozen?_setCell, World.frozen?_setCell]
    exact (q4.frozen (p := ⟨w.heap.size + 1, o, none⟩) (by dsimp only; omega)).trans (fX o)
  · intro i v h
    rw [World.cell?_setCell_far _ _ _ _ (by simp), World.cell?_setCell_far _ _ _ _ (by simp), World.cell?_setCell_far _ _ _ _ (by simp), World.cell?_setCell_far _ _ _ _ (by simp)]
    exact (q4.cell (p := ⟨w.heap.size + 1, i, none⟩) (by dsimp only; omega)).trans (zX i v h)
  · rcases s4 with s4 | ⟨g, rfl, h1, h2, h3⟩
    · subst s4
      exact .inl hes.symm
    · refine .inr ⟨g, es, rfl, h1, hes, (((h2.set (by omega)).set (by omega)).set (by omega)).set (by omega), fun e he => ?_, fun o => ?_⟩
      · obtain ⟨A, c, e1, h5, h6, h7⟩ := hov e he
        refine ⟨A, c, e1, h5, h6, ?_⟩
        rcases h7 with h7 | ⟨b, off, e2, h8⟩
        · exact .inl h7
        · have := h8.1
          exact .inr ⟨b, off, e2, by omega, by omega, h8.below hV⟩
      · rw [World.frozen?_setCell, World.frozen?_setCell, World.frozen?_setCell, World.frozen?_setCell]
        exact h3 o

def OwnOf (L : Lay) (w : World) (e : Ending) (w' : World) : Prop := ∃ p', e = .returned (L.val p') ∧ LayAt w' p' L ∧ Below w.heap.size w w'

end Go.Proofs.YtmnkgnoljllnnaaDoor

/-
  lockbarlaw06.wakes.
-/
namespace Go.Proofs.YtmnkgnoljllnnaaDoor
open Go.RowKit Go.Shelf

def badL : Lay := ⟨[⟨1, -1, 0, 1, 0, 1, 0, -1, 0, 0, 0⟩, ⟨2, 0, 1, 2, 0, 3, 0, -1, 0, 0, 1⟩, ⟨1, 1, 1, -1, 0, -1, 0, -1, 0, 0, 0⟩, ⟨1, 1, 2, -1, 0, -1, 0, -1, 0, 0, 0⟩], [⟨0, 0⟩], [⟨1, 1, [⟨2, 0, 1⟩]⟩, ⟨3, 1, []⟩], [], 1, 1, 1, 1, 1, 1, 1⟩
def emptyL : Lay := ⟨[], [], [], [], 1, 1, 1, 1, 1, 1, 1⟩
def sigL : Lay := ⟨[], [⟨0, 0⟩], [], [], 1, 1, 1, 1, 1, 1, 1⟩
def zeroL : Lay := ⟨[], [], [], [], 0, 0, 0, 0, 0, 0, 0⟩
def noneP : Where := ⟨none, none, none, none, 0, 0, 0, 0⟩
theorem LineAt.set {W : World} {n g o : Nat} {u : Value} (h : LineAt W n) (hg : n + 1 + 1 + 1 < g) : LineAt (W.setCell ⟨g, o, none⟩ u) n :=
  ⟨by simpa [World.setCell] using h.lt, h.secs.set (by omega), h.sigs.set (by omega), h.over.set (by omega), h.exits.set (by omega)⟩
theorem lay_nil {W : World} {L : Lay} (h1 : L.secs = []) (h2 : L.sigs = []) (h3 : L.exits = []) (h4 : L.flanks = []) : LayAt W noneP L :=
  ⟨.inl h1, .inl h2, ⟨[], by rw [h3]; rfl, .inl rfl, fun e he => by cases he⟩, .inl h4, by simp [h1, noneP], by simp [h2, noneP], by simp [h3, noneP], by simp [h4, noneP], fun c hc => by rw [h1] at hc; cases hc⟩
/-- line's layout with one join turned. -/
theorem bad_lay {W W' : World} {n : Nat} (h : LineAt W n) (hb : Below ((W.setCell ⟨n, 5, none⟩ (.int .i64 1)).setCell ⟨n, 6, none⟩ (.int .i64 0)).heap.size ((W.setCell ⟨n, 5, none⟩ (.int .i64 1)).setCell ⟨n, 6, none⟩ (.int .i64 0)) W') : LayAt W' (lineP n) badL := by
  have hz : ((W.setCell ⟨n, 5, none⟩ (.int .i64 1)).setCell ⟨n, 6, none⟩ (.int .i64 0)).heap.size = W.heap.size := by simp [World.setCell]
  have hlt := h.lt
  have k5 : W.cell? ⟨n, 5, none⟩ = some (.int .i64 (-1)) := h.secs.2 0 _ rfl 5 _ rfl
  have k6 : (W.setCell ⟨n, 5, none⟩ (.int .i64 1)).cell? ⟨n, 6, none⟩ = some (.int .i64 0) := (World.cell?_setCell_other _ _ _ _ (by simp)).trans (h.secs.2 0 _ rfl 6 _ rfl)
  have hs : RowAt' ((W.setCell ⟨n, 5, none⟩ (.int .i64 1)).setCell ⟨n, 6, none⟩ (.int .i64 0)) 11 Sec.enc n 0 badL.secs := by
    refine rowAt_flat (fun _ => rfl) (by decide) (by rw [hz]; omega) (fun o v hv => ?_)
    have old : ∀ (o : Nat) (v : Value), (lineL.secs.flatMap Sec.enc)[o]? = some v → W.cell? ⟨n, o, none⟩ = some v := fun o v e => by
      have := flat_cells (enc := Sec.enc) (k := 11) (fun _ => rfl) (by decide) h.secs o v e
      rwa [add_at, Nat.zero_add] at this
    by_cases h5 : o = 5
    · subst h5
      rw [World.cell?_setCell_other _ _ _ _ (by simp), World.cell?_setCell_same _ _ _ k5]
      exact hv
    · by_cases h6 : o = 6
      · subst h6
        rw [World.cell?_setCell_same _ _ _ k6]
        exact hv
      · rw [World.cell?_setCell_other _ _ _ _ (by simp <;> omega), World.cell?_setCell_other _ _ _ _ (by simp <;> omega)]
        refine old o v ?_
        obtain rfl | rfl | rfl | rfl | rfl | h7 : o = 0 ∨ o = 1 ∨ o = 2 ∨ o = 3 ∨ o = 4 ∨ 7 ≤ o := by omega
        · exact hv
        · exact hv
        · exact hv
        · exact hv
        · exact hv
        · obtain ⟨j, rfl⟩ : ∃ j, o = j + 7 := ⟨o - 7, by omega⟩
          exact hv
  have hs' := hs.below hb
  have hg := ((h.sigs.set (g := n) (o := 5) (u := .int .i64 1) (by omega)).set (g := n) (o := 6) (u := .int .i64 0) (by omega)).below hb
  have ho := ((h.over.set (g := n) (o := 5) (u := .int .i64 1) (by omega)).set (g := n) (o := 6) (u := .int .i64 0) (by omega)).below hb
  have he := ((h.exits.set (g := n) (o := 5) (u := .int .i64 1) (by omega)).set (g := n) (o := 6) (u := .int .i64 0) (by omega)).below hb
  refine ⟨.inr ⟨_, _, rfl, hs'⟩, .inr ⟨_, _, rfl, hg⟩, ⟨_, rfl, .inr ⟨_, _, rfl, he⟩, fun e he => ?_⟩, .inl rfl, by simp [badL, lineP], by simp [badL, lineP], by simp [badL, lineP], by simp [badL, lineP], by simp [badL]⟩
  simp only [List.mem_cons, List.not_mem_nil, or_false] at he
  rcases he with rfl | rfl
  · exact ⟨_, _, rfl, by simp, by unfold maxLen; omega, .inr ⟨_, _, rfl, ho⟩⟩
  · exact ⟨_, _, rfl, by simp, by unfold maxLen; omega, .inl rfl⟩
theorem at12 : atV (atO lineL 1 2) = .tuple #[.agg #[.int .u8 2, .int .i64 0, .int .i64 1, .int .i64 2, .int .i64 0, .int .i64 3, .int .i64 0, .int .i64 (-1), .int .i64 0, .int .i64 0, .int .i64 1], .bool true] := rfl
theorem st1 : stepN lineL 1 2 0 = 1 ∧ stepB lineL 1 2 0 = true ∧ stepB lineL 1 2 1 = false := ⟨rfl, rfl, rfl⟩
theorem at02 : atV (atO lineL 0 2) = .tuple #[.agg #[.int .u8 0, .int .i64 0, .int .i64 0, .int .i64 0, .int .i64 0, .int .i64 0, .int .i64 0, .int .i64 0, .int .i64 0, .int .i64 0, .int .i64 0], .bool false] := rfl
theorem rights : rightL lineL = true ∧ rightL badL = false ∧ rightL emptyL = true ∧ rightL sigL = false ∧ rightL zeroL = false ∧ sameL lineL lineL = true ∧ sameL badL lineL = false := by decide

theorem few_line : Few lineL := by unfold Few; decide
theorem idxs : sigIx lineL 0 0 = 0 ∧ sigIx lineL 1 0 = -1 ∧ exIx lineL 3 1 = 1 := by decide

end Go.Proofs.YtmnkgnoljllnnaaDoor

/-
  lockbarlaw09.one, wakes.
-/
namespace Go.Proofs.YtmnkgnoljllnnaaDoor
open Go.RowKit Go.Shelf

def oneL : Lay := ⟨[⟨1, -1, 0, -1, 0, -1, 0, -1, 0, 0, 0⟩], [], [⟨0, 1, []⟩], [], 1, 1, 1, 1, 1, 1, 1⟩
def twoL : Lay := ⟨[⟨1, -1, 0, -1, 0, -1, 0, -1, 0, 0, 0⟩], [⟨0, 0⟩, ⟨0, 0⟩], [⟨0, 1, []⟩], [], 1, 1, 1, 1, 1, 1, 1⟩
def ovrL : Lay := ⟨[⟨1, -1, 0, -1, 0, -1, 0, -1, 0, 0, 0⟩], [], [⟨0, 1, [⟨0, 0, 1⟩]⟩], [], 1, 1, 1, 1, 1, 1, 1⟩
def oneP (n : Nat) : Where := ⟨some ⟨n, 0, none⟩, none, some ⟨n + 1, 0, none⟩, none, 1, 0, 1, 0⟩
def twoP (n g : Nat) : Where := ⟨some ⟨n, 0, none⟩, some ⟨g, 0, none⟩, some ⟨n + 1, 0, none⟩, none, 1, 2, 1, 0⟩
/-- The cells of one's blocks, from block n on. -/
structure OneAt (W : World) (n : Nat) : Prop where
  lt : n + 1 < W.heap.size
  secs : RowAt' W 11 Sec.enc n 0 oneL.secs
  exits : RowAt' W 3 Ext'.enc (n + 1) 0 [(⟨0, 1, []⟩, .slice none 0 0)]
theorem OneAt.below {W W' : World} {n : Nat} (h : OneAt W n) (hb : Below W.heap.size W W') : OneAt W' n :=
  ⟨Nat.lt_of_lt_of_le h.lt hb.size, h.secs.below hb, h.exits.below hb⟩
theorem OneAt.set {W : World} {n g o : Nat} {u : Value} (h : OneAt W n) (hg : n + 1 < g) : OneAt (W.setCell ⟨g, o, none⟩ u) n :=
  ⟨by simpa [World.setCell] using h.lt, h.secs.set (by omega), h.exits.set (by omega)⟩
theorem OneAt.lay {W : World} {n : Nat} (h : OneAt W n) : LayAt W (oneP n) oneL := by
  refine ⟨.inr ⟨_, _, rfl, h.secs⟩, .inl rfl, ⟨_, rfl, .inr ⟨_, _, rfl, h.exits⟩, fun e he => ?_⟩, .inl rfl, by simp [oneL, oneP], by simp [oneL, oneP], by simp [oneL, oneP], by simp [oneL, oneP], by simp [oneL]⟩
  simp only [List.mem_cons, List.not_mem_nil, or_false] at he
  subst he
  exact ⟨_, _, rfl, by simp, by unfold maxLen; omega, .inl rfl⟩
/-- With two signals. -/
theorem OneAt.two {W : World} {n g : Nat} (h : OneAt W n) (hs : RowAt' W 2 Prt.enc g 0 twoL.sigs) : LayAt W (twoP n g) twoL := by
  refine ⟨.inr ⟨_, _, rfl, h.secs⟩, .inr ⟨_, _, rfl, hs⟩, ⟨_, rfl, .inr ⟨_, _, rfl, h.exits⟩, fun e he => ?_⟩, .inl rfl, by simp [twoL, twoP], by simp [twoL, twoP], by simp [twoL, twoP], by simp [twoL, twoP], by simp [twoL]⟩
  simp only [List.mem_cons, List.not_mem_nil, or_false] at he
  subst he
  exact ⟨_, _, rfl, by simp, by unfold maxLen; omega, .inl rfl⟩
/-- With an overlap. -/
theorem ovr_lay {W : World} {n g : Nat} (hs : RowAt' W 11 Sec.enc n 0 ovrL.secs) (he0 : RowAt' W 3 Ext'.enc (n + 1) 0 [(⟨0, 1, [⟨0, 0, 1⟩]⟩, .slice (some ⟨g, 0, none⟩) 1 1)]) (ho : RowAt' W 3 Stp.enc g 0 [⟨0, 0, 1⟩]) : LayAt W (oneP n) ovrL := by
  refine ⟨.inr ⟨_, _, rfl, hs⟩, .inl rfl, ⟨_, rfl, .inr ⟨_, _, rfl, he0⟩, fun e he => ?_⟩, .inl rfl, by simp [ovrL, oneP], by simp [ovrL, oneP], by simp [ovrL, oneP], by simp [ovrL, oneP], by simp [ovrL]⟩
  simp only [List.mem_cons, List.not_mem_nil, or_false] at he
  subst he
  exact ⟨_, _, rfl, by simp, by unfold maxLen; omega, .inr ⟨_, _, rfl, ho⟩⟩

set_option maxRecDepth 100000 in
set_option maxHeartbeats 4000000 in
theorem one_any (w : World) : Calls Tryd.prog 20 #[] w fun e w' => e = .returned (.agg #[.slice (some ⟨(w.heap.size + 1 + 1), 0, none⟩) 1 1, .slice none 0 0, .slice (some ⟨(w.heap.size + 1 + 1) + 1, 0, none⟩) 1 1, .slice none 0 0, .int .i64 1, .int .i64 1, .int .i64 1, .int .i64 1, .int .i64 1, .int .i64 1, .int .i64 1]) ∧ OneAt w' (w.heap.size + 1 + 1) ∧ (∀ o, w'.frozen? ⟨w.heap.size + 1 + 1 + 1, o, none⟩ = false) ∧ Below w.heap.size w w' := by
  go_enter Tryd.func20, Tryd.ntmps20
  go_wp2
  refine bodyPost_ret (v := .agg #[.slice (some ⟨(w.heap.size + 1 + 1), 0, none⟩) 1 1, .slice none 0 0, .slice (some ⟨(w.heap.size + 1 + 1) + 1, 0, none⟩) 1 1, .slice none 0 0, .int .i64 1, .int .i64 1, .int .i64 1, .int .i64 1, .int .i64 1, .int .i64 1, .int .i64 1]) (by simp [results, Tryd.results20, go_sem]) rfl ⟨rfl, ⟨by simp, ?_, ?_⟩, ?_, ?_⟩
  · exact rowAt_flat (fun _ => rfl) (by decide) (by simp) (fun o v hv => by simpa [go_sem, oneL, Sec.enc] using hv)
  · exact rowAt_flat (fun _ => rfl) (by decide) (by simp) (fun o v hv => by simpa [go_sem, Ext'.enc] using hv)
  · intro o; simp [go_sem]
  · exact bchain (bchain (bchain bself bself) bself) bself
theorem checks : checkL oneL = (0, 0, 0) ∧ checkL twoL = (2, 1, 90) ∧ checkL ovrL = (4, 0, 90) ∧ checkL zeroL = (0, 0, 60) := by decide +kernel
theorem topos : topoR oneL = true ∧ topoR twoL = false ∧ overX oneL 0 = true ∧ overX oneL 1 = false ∧ overX ovrL 0 = false := by decide +kernel

theorem one_cells {W : World} {g m : Nat} (h : BoxL W g oneL (oneP m)) : W.cell? ⟨g, 0, none⟩ = some (.slice (some ⟨m, 0, none⟩) 1 1) ∧ W.cell? ⟨g, 1, none⟩ = some (.slice none 0 0) ∧ W.cell? ⟨g, 2, none⟩ = some (.slice (some ⟨m + 1, 0, none⟩) 1 1) ∧ W.cell? ⟨g, 3, none⟩ = some (.slice none 0 0) ∧ W.cell? ⟨g, 4, none⟩ = some (.int .i64 1) ∧ W.cell? ⟨g, 5, none⟩ = some (.int .i64 1) ∧ W.cell? ⟨g, 6, none⟩ = some (.int .i64 1) ∧ W.cell? ⟨g, 7, none⟩ = some (.int .i64 1) ∧ W.cell? ⟨g, 8, none⟩ = some (.int .i64 1) ∧ W.cell? ⟨g, 9, none⟩ = some (.int .i64 1) ∧ W.cell? ⟨g, 10, none⟩ = some (.int .i64 1) :=
  ⟨h.2 0 _ rfl, h.2 1 _ rfl, h.2 2 _ rfl, h.2 3 _ rfl, h.2 4 _ rfl, h.2 5 _ rfl, h.2 6 _ rfl, h.2 7 _ rfl, h.2 8 _ rfl, h.2 9 _ rfl, h.2 10 _ rfl⟩
theorem two_cells {W : World} {g m s : Nat} (h : BoxL W g twoL (twoP m s)) : W.cell? ⟨g, 0, none⟩ = some (.slice (some ⟨m, 0, none⟩) 1 1) ∧ W.cell? ⟨g, 1, none⟩ = some (.slice (some ⟨s, 0, none⟩) 2 2) ∧ W.cell? ⟨g, 2, none⟩ = some (.slice (some ⟨m + 1, 0, none⟩) 1 1) ∧ W.cell? ⟨g, 3, none⟩ = some (.slice none 0 0) ∧ W.cell? ⟨g, 4, none⟩ = some (.int .i64 1) ∧ W.cell? ⟨g, 5, none⟩ = some (.int .i64 1) ∧ W.cell? ⟨g, 6, none⟩ = some (.int .i64 1) ∧ W.cell? ⟨g, 7, none⟩ = some (.int .i64 1) ∧ W.cell? ⟨g, 8, none⟩ = some (.int .i64 1) ∧ W.cell? ⟨g, 9, none⟩ = some (.int .i64 1) ∧ W.cell? ⟨g, 10, none⟩ = some (.int .i64 1) :=
  ⟨h.2 0 _ rfl, h.2 1 _ rfl, h.2 2 _ rfl, h.2 3 _ rfl, h.2 4 _ rfl, h.2 5 _ rfl, h.2 6 _ rfl, h.2 7 _ rfl, h.2 8 _ rfl, h.2 9 _ rfl, h.2 10 _ rfl⟩
set_option maxRecDepth 100000 in
set_option maxHeartbeats 16000000 in
theorem wakes9_any (w : World) (K : Kinds w) (E : JEnd w) : Calls Tryd.prog 9 #[] w fun e w' => e = .returned (.bool true) ∧ Below w.heap.size w w' := by
  have mk := Lib.hid trivial
  have HK := Lib.hid (⟨K, E⟩ : _ ∧ _)
  clear K E
  go_enter Tryd.func9, Tryd.ntmps9
  go_upto_region 3 with (first
    | (clear mk; go_at_call 20; refine (one_any _).mono ?_; rintro e W1 ⟨rfl, l1, f1, b1⟩)
    | (go_at_call 20; refine (one_any _).mono ?_; rintro e W2 ⟨rfl, l2, f2, b2⟩))
  obtain ⟨m1, hm1⟩ : ∃ m, m = w.heap.size + 1 + 1 := ⟨_, rfl⟩
  obtain ⟨m2, hm2⟩ : ∃ m, m = W1.heap.size + 1 + 1 := ⟨_, rfl⟩
  rw [← hm1] at l1 ⊢
  rw [← hm2] at l2 ⊢
  obtain ⟨n, hn⟩ : ∃ n, n = W2.heap.size := ⟨_, rfl⟩
  obtain ⟨Z, hZ⟩ : ∃ Z, Z = ((W2.alloc (.cells #[.slice (some ⟨m1, 0, none⟩) 1 1, .slice none 0 0, .slice (some ⟨m1 + 1, 0, none⟩) 1 1, .slice none 0 0, .int .i64 1, .int .i64 1, .int .i64 1, .int .i64 1, .int .i64 1, .int .i64 1, .int .i64 1] 29)).alloc (.cells #[.slice (some ⟨m2, 0, none⟩) 1 1, .slice (some ⟨n + 1 + 1, 0, none⟩) 2 2, .slice (some ⟨m2 + 1, 0, none⟩) 1 1, .slice none 0 0, .int .i64 1, .int .i64 1, .int .i64 1, .int .i64 1, .int .i64 1, .int .i64 1, .int .i64 1] 29)).alloc (.cells #[.int .i64 0, .int .i64 0, .int .i64 0, .int .i64 0] 51) := ⟨_, rfl⟩
  have e1 : BoxL Z n oneL (oneP m1) := by rw [hZ]; exact ((BoxL.make (L := oneL) (p := oneP m1) 29 hn).below bself).below bself
  have e2 : BoxL Z (n + 1) twoL (twoP m2 (n + 1 + 1)) := by rw [hZ]; exact (BoxL.make (L := twoL) (p := twoP m2 (n + 1 + 1)) 29 (by rw [hn]; simp)).below bself
  have y1 : OneAt Z m1 := by rw [hZ]; exact (((l1.below b2).below bself).below bself).below bself
  have y2 : OneAt Z m2 := by rw [hZ]; exact ((l2.below bself).below bself).below bself
  have y3 : RowAt' Z 2 Prt.enc (n + 1 + 1) 0 twoL.sigs := by
    rw [hZ, hn]
    exact rowAt_flat (fun _ => rfl) (by decide) (by simp) (fun o v hv => by simpa [go_sem, twoL, Prt.enc] using hv)
  have bz : Below w.heap.size w Z := by rw [hZ]; exact bchain (bchain b1 b2) (bchain (bchain bself bself) bself)
  have HZ : ((W2.alloc (.cells #[.slice (some ⟨m1, 0, none⟩) 1 1, .slice none 0 0, .slice (some ⟨m1 + 1, 0, none⟩) 1 1, .slice none 0 0, .int .i64 1, .int .i64 1, .int .i64 1, .int .i64 1, .int .i64 1, .int .i64 1, .int .i64 1] 29)).alloc (.cells #[.slice (some ⟨m2, 0, none⟩) 1 1, .slice (some ⟨n + 1 + 1, 0, none⟩) 2 2, .slice (some ⟨m2 + 1, 0, none⟩) 1 1, .slice none 0 0, .int .i64 1, .int .i64 1, .int .i64 1, .int .i64 1, .int .i64 1, .int .i64 1, .int .i64 1] 29)).alloc (.cells #[.int .i64 0, .int .i64 0, .int .i64 0, .int .i64 0] 51) = Z := hZ.symm
  rw [← hn]
  rw [HZ]
  clear HZ hZ hn hm1 hm2 l1 l2 f1 f2 b1 b2
  have hct := fun V (hb : Below Z.heap.size Z V) => check_any twoL (twoP m2 (n + 1 + 1)) V ((y2.below hb).two (y3.below hb)) (HK.out.1.below (bchain bz hb)) (HK.out.2.below (bchain bz hb))
  have hco := fun V (hb : Below Z.heap.size Z V) => check_any oneL (oneP m1) V (y1.below hb).lay (HK.out.1.below (bchain bz hb)) (HK.out.2.below (bchain bz hb))
  have hcz := fun V (hb : Below Z.heap.size Z V) => check_any zeroL noneP V (lay_nil rfl rfl rfl rfl) (HK.out.1.below (bchain bz hb)) (HK.out.2.below (bchain bz hb))
  have hro := fun V (hb : Below Z.heap.size Z V) => topoRight_any oneL (oneP m1) V (y1.below hb).lay (HK.out.1.below (bchain bz hb)) (HK.out.2.below (bchain bz hb))
  have hrt := fun V (hb : Below Z.heap.size Z V) => topoRight_any twoL (twoP m2 (n + 1 + 1)) V ((y2.below hb).two (y3.below hb)) (HK.out.1.below (bchain bz hb)) (HK.out.2.below (bchain bz hb))
  have ho0 := fun V (hb : Below Z.heap.size Z V) => over2_any oneL (oneP m1) 0 V (y1.below hb).lay (HK.out.1.below (bchain bz hb)) (HK.out.2.below (bchain bz hb))
  have ho1 := fun V (hb : Below Z.heap.size Z V) => over2_any oneL (oneP m1) 1 V (y1.below hb).lay (HK.out.1.below (bchain bz hb)) (HK.out.2.below (bchain bz hb))
  rw [checks.2.1] at hct
  rw [checks.1] at hco
  rw [checks.2.2.2] at hcz
  rw [topos.1] at hro
  rw [topos.2.1] at hrt
  rw [topos.2.2.1] at ho0
  rw [topos.2.2.2.1] at ho1
  replace hct : ∀ V, Below Z.heap.size Z V → Calls Tryd.prog 10 #[.agg #[.slice (some ⟨m2, 0, none⟩) 1 1, .slice (some ⟨n + 1 + 1, 0, none⟩) 2 2, .slice (some ⟨m2 + 1, 0, none⟩) 1 1, .slice none 0 0, .int .i64 1, .int .i64 1, .int .i64 1, .int .i64 1, .int .i64 1, .int .i64 1, .int .i64 1]] V fun e w' => e = .returned (.tuple #[.int .i64 2, .int .i64 1, .int .i64 90]) ∧ Below V.heap.size V w' := hct
  replace hco : ∀ V, Below Z.heap.size Z V → Calls Tryd.prog 10 #[.agg #[.slice (some ⟨m1, 0, none⟩) 1 1, .slice none 0 0, .slice (some ⟨m1 + 1, 0, none⟩) 1 1, .slice none 0 0, .int .i64 1, .int .i64 1, .int .i64 1, .int .i64 1, .int .i64 1, .int .i64 1, .int .i64 1]] V fun e w' => e = .returned (.tuple #[.int .i64 0, .int .i64 0, .int .i64 0]) ∧ Below V.heap.size V w' := hco
  replace hcz : ∀ V, Below Z.heap.size Z V → Calls Tryd.prog 10 #[.agg #[.slice none 0 0, .slice none 0 0, .slice none 0 0, .slice none 0 0, .int .i64 0, .int .i64 0, .int .i64 0, .int .i64 0, .int .i64 0, .int .i64 0, .int .i64 0]] V fun e w' => e = .returned (.tuple #[.int .i64 0, .int .i64 0, .int .i64 60]) ∧ Below V.heap.size V w' := hcz
  replace hro : ∀ V, Below Z.heap.size Z V → Calls Tryd.prog 12 #[.agg #[.slice (some ⟨m1, 0, none⟩) 1 1, .slice none 0 0, .slice (some ⟨m1 + 1, 0, none⟩) 1 1, .slice none 0 0, .int .i64 1, .int .i64 1, .int .i64 1, .int .i64 1, .int .i64 1, .int .i64 1, .int .i64 1]] V fun e w' => e = .returned (.bool true) ∧ Below V.heap.size V w' := hro
  replace hrt : ∀ V, Below Z.heap.size Z V → Calls Tryd.prog 12 #[.agg #[.slice (some ⟨m2, 0, none⟩) 1 1, .slice (some ⟨n + 1 + 1, 0, none⟩) 2 2, .slice (some ⟨m2 + 1, 0, none⟩) 1 1, .slice none 0 0, .int .i64 1, .int .i64 1, .int .i64 1, .int .i64 1, .int .i64 1, .int .i64 1, .int .i64 1]] V fun e w' => e = .returned (.bool false) ∧ Below V.heap.size V w' := hrt
  replace ho0 : ∀ V, Below Z.heap.size Z V → Calls Tryd.prog 14 #[.agg #[.slice (some ⟨m1, 0, none⟩) 1 1, .slice none 0 0, .slice (some ⟨m1 + 1, 0, none⟩) 1 1, .slice none 0 0, .int .i64 1, .int .i64 1, .int .i64 1, .int .i64 1, .int .i64 1, .int .i64 1, .int .i64 1], .int .i64 0] V fun e w' => e = .returned (.bool true) ∧ Below V.heap.size V w' := ho0
  replace ho1 : ∀ V, Below Z.heap.size Z V → Calls Tryd.prog 14 #[.agg #[.slice (some ⟨m1, 0, none⟩) 1 1, .slice none 0 0, .slice (some ⟨m1 + 1, 0, none⟩) 1 1, .slice none 0 0, .int .i64 1, .int .i64 1, .int .i64 1, .int .i64 1, .int .i64 1, .int .i64 1, .int .i64 1], .int .i64 1] V fun e w' => e = .returned (.bool false) ∧ Below V.heap.size V w' := ho1
  have HC := Lib.hid (⟨hct, hco, hcz, hro, hrt, ho0, ho1⟩ : _ ∧ _ ∧ _ ∧ _ ∧ _ ∧ _ ∧ _)
  have HB := Lib.hid (⟨e1, e2, bz⟩ : _ ∧ _ ∧ _)
  have ln1 : n + 1 < Z.heap.size := e2.1
  have ln : n < Z.heap.size := e1.1
  clear hct hco hcz hro hrt ho0 ho1 e1 e2 bz y1 y2 y3
  obtain ⟨d0, d1, d2, d3, d4, d5, d6, d7, d8, d9, d10⟩ := two_cells HB.out.2.1
  go_wp2_with fail
  (with_reducible refine (HC.out.1 _ (Below.refl _ _)).mono ?_)
  rintro e Z1 ⟨rfl, b1⟩
  have hb := HB.out.1.below b1
  have lz := hb.1
  obtain ⟨c0, c1, c2, c3, c4, c5, c6, c7, c8, c9, c10⟩ := one_cells hb
  have HB1 := Lib.hid b1
  clear b1 hb d0 d1 d2 d3 d4 d5 d6 d7 d8 d9 d10
  go_wp2_with fail
  (with_reducible refine (HC.out.2.1 _ HB1.out).mono ?_)
  rintro e Z2 ⟨rfl, b2⟩
  have HB2 := Lib.hid (bchain HB1.out b2)
  clear b2 c0 c1 c2 c3 c4 c5 c6 c7 c8 c9 c10 lz HB1
  go_wp2_with fail
  (with_reducible refine (HC.out.2.2.1 _ HB2.out).mono ?_)
  rintro e Z3 ⟨rfl, b3⟩
  have HB3 := Lib.hid (bchain HB2.out b3)
  clear b3 HB2
  go_wp2_with fail
  (with_reducible refine (one_any _).mono ?_)
  rintro e W3 ⟨rfl, l3, f3, b3⟩
  obtain ⟨m3, hm3⟩ : ∃ m, m = Z3.heap.size + 1 + 1 := ⟨_, rfl⟩
  rw [show Z3.heap.size + 1 + 1 + 1 = m3 + 1 by rw [hm3]] at f3
  rw [← hm3] at l3
  rw [← hm3]
  have HL3 := Lib.hid (⟨l3, bchain HB3.out b3, b3, f3⟩ : _ ∧ _ ∧ _ ∧ _)
  have lm : Z3.heap.size < m3 := by omega
  have lmw : m3 + 1 < W3.heap.size := l3.lt
  clear l3 b3 f3 hm3
  go_upto_region 7 with fail
  obtain ⟨U, hU⟩ : ∃ U, U = W3.alloc (.cells #[.slice (some ⟨m3, 0, none⟩) 1 1, .slice none 0 0, .slice (some ⟨m3 + 1, 0, none⟩) 1 1, .slice none 0 0, .int .i64 1, .int .i64 1, .int .i64 1, .int .i64 1, .int .i64 1, .int .i64 1, .int .i64 1] 29) := ⟨_, rfl⟩
  have u1 : OneAt U m3 := by rw [hU]; exact HL3.out.1.below bself
  have u2 : BoxL U W3.heap.size oneL (oneP m3) := by rw [hU]; exact BoxL.make (L := oneL) (p := oneP m3) 29 rfl
  have u3 : Below Z3.heap.size Z3 U := by rw [hU]; exact bchain HL3.out.2.2.1 bself
  have x2 : U.cell? ⟨m3 + 1, 2, none⟩ = some (.slice none 0 0) := u1.exits.2 0 _ rfl 2 _ rfl
  have x2f : U.frozen? ⟨m3 + 1, 2, none⟩ = false := by rw [hU]; exact ((bself (w := W3)).frozen (p := ⟨m3 + 1, 2, none⟩) lmw).trans (HL3.out.2.2.2 2)
  have lx : m3 + 1 < U.heap.size := u1.lt
  have lu : U.heap.size = W3.heap.size + 1 := by rw [hU]; simp
  rw [← hU]
  have q2 : U.cell? ⟨W3.heap.size, 2, none⟩ = some (.slice (some ⟨m3 + 1, 0, none⟩) 1 1) := u2.2 2 _ rfl
  have lq := u2.1
  have HU := Lib.hid (⟨u1, u2, u3, lu⟩ : _ ∧ _ ∧ _ ∧ _)
  clear hU u1 u2 u3 lu
  go_upto_region 8 with fail
  obtain ⟨Y, hY⟩ : ∃ Y, Y = (U.setCell ⟨m3 + 1, 2, none⟩ (.slice (some ⟨U.heap.size, 0, none⟩) 1 1)).alloc (.cells #[.int .i64 0, .int .i64 0, .int .i64 1] 42) := ⟨_, rfl⟩
  have w1 := HU.out.1
  have w2 : BoxL Y W3.heap.size oneL (oneP m3) := by rw [hY]; exact (HU.out.2.1.set (by omega)).below bself
  have w3 : Below Z3.heap.size Z3 Y := by
    rw [hY]
    refine Below.trans (HU.out.2.2.1.setCell (p := ⟨m3 + 1, 2, none⟩) (by dsimp only; omega) _) (Below.mono bself ?_)
    have := HU.out.2.2.1.size
    simpa [World.setCell] using this
  have ws : RowAt' Y 11 Sec.enc m3 0 ovrL.secs := by rw [hY]; exact (w1.secs.set (by omega)).below bself
  have we : RowAt' Y 3 Ext'.enc (m3 + 1) 0 [(⟨0, 1, [⟨0, 0, 1⟩]⟩, .slice (some ⟨U.heap.size, 0, none⟩) 1 1)] := by
    rw [hY]
    refine RowAt'.below (W := (U.setCell ⟨m3 + 1, 2, none⟩ (.slice (some ⟨U.heap.size, 0, none⟩) 1 1))) ?_ bself
    refine rowAt_flat (fun _ => rfl) (by decide) (by simpa [World.setCell] using w1.lt) (fun o v hv => ?_)
    have k0 : U.cell? ⟨m3 + 1, 0, none⟩ = some (.int .i64 0) := w1.exits.2 0 _ rfl 0 _ rfl
    have k1 : U.cell? ⟨m3 + 1, 1, none⟩ = some (.int .i64 1) := w1.exits.2 0 _ rfl 1 _ rfl
    obtain rfl | rfl | rfl | h3 : o = 0 ∨ o = 1 ∨ o = 2 ∨ 3 ≤ o := by omega
    · rw [World.cell?_setCell_other _ _ _ _ (by simp), k0]; exact hv
    · rw [World.cell?_setCell_other _ _ _ _ (by simp), k1]; exact hv
    · rw [World.cell?_setCell_same _ _ _ x2]; exact hv
    · obtain ⟨j, rfl⟩ : ∃ j, o = j + 3 := ⟨o - 3, by omega⟩
      cases hv
  have wo : RowAt' Y 3 Stp.enc U.heap.size 0 [⟨0, 0, 1⟩] := by
    rw [hY]
    exact rowAt_flat (fun _ => rfl) (by decide) (by simp [World.setCell]) (fun o v hv => by
      rw [World.cell?_alloc_at _ _ _ _ (by simp [World.setCell])]
      simpa [Stp.enc] using hv)
  rw [← hY]
  have HZY := Lib.hid (bchain HB3.out w3)
  have hcv := fun V (hb : Below Y.heap.size Y V) => check_any ovrL (oneP m3) V (ovr_lay (ws.below hb) (we.below hb) (wo.below hb)) (HK.out.1.below (bchain HB.out.2.2 (bchain HZY.out hb))) (HK.out.2.below (bchain HB.out.2.2 (bchain HZY.out hb)))
  have hov := fun V (hb : Below Y.heap.size Y V) => over2_any ovrL (oneP m3) 0 V (ovr_lay (ws.below hb) (we.below hb) (wo.below hb)) (HK.out.1.below (bchain HB.out.2.2 (bchain HZY.out hb))) (HK.out.2.below (bchain HB.out.2.2 (bchain HZY.out hb)))
  rw [checks.2.2.1] at hcv
  rw [topos.2.2.2.2] at hov
  replace hcv : ∀ V, Below Y.heap.size Y V → Calls Tryd.prog 10 #[.agg #[.slice (some ⟨m3, 0, none⟩) 1 1, .slice none 0 0, .slice (some ⟨m3 + 1, 0, none⟩) 1 1, .slice none 0 0, .int .i64 1, .int .i64 1, .int .i64 1, .int .i64 1, .int .i64 1, .int .i64 1, .int .i64 1]] V fun e w' => e = .returned (.tuple #[.int .i64 4, .int .i64 0, .int .i64 90]) ∧ Below V.heap.size V w' := hcv
  replace hov : ∀ V, Below Y.heap.size Y V → Calls Tryd.prog 14 #[.agg #[.slice (some ⟨m3, 0, none⟩) 1 1, .slice none 0 0, .slice (some ⟨m3 + 1, 0, none⟩) 1 1, .slice none 0 0, .int .i64 1, .int .i64 1, .int .i64 1, .int .i64 1, .int .i64 1, .int .i64 1, .int .i64 1], .int .i64 0] V fun e w' => e = .returned (.bool false) ∧ Below V.heap.size V w' := hov
  have HV := Lib.hid (⟨hcv, hov, w2⟩ : _ ∧ _ ∧ _)
  clear hcv hov w1 w2 w3 ws we wo hY x2 x2f q2 HU
  generalize W3.heap.size = g3 at HV ⊢
  obtain ⟨c0, c1, c2, c3, c4, c5, c6, c7, c8, c9, c10⟩ := one_cells HV.out.2.2
  have lz := HV.out.2.2.1
  go_wp2_with fail
  (with_reducible refine (HV.out.1 _ (Below.refl _ _)).mono ?_)
  rintro e V1 ⟨rfl, b1⟩
  clear c0 c1 c2 c3 c4 c5 c6 c7 c8 c9 c10 lz
  have HX1 := Lib.hid (bchain HZY.out b1)
  have HY1 := Lib.hid b1
  obtain ⟨c0, c1, c2, c3, c4, c5, c6, c7, c8, c9, c10⟩ := one_cells (HB.out.1.below HX1.out)
  have lz := (HB.out.1.below HX1.out).1
  clear b1
  go_wp2_with fail
  (with_reducible refine (HC.out.2.2.2.1 _ HX1.out).mono ?_)
  rintro e V2 ⟨rfl, b2⟩
  clear c0 c1 c2 c3 c4 c5 c6 c7 c8 c9 c10 lz
  have HX2 := Lib.hid (bchain HX1.out b2)
  have HY2 := Lib.hid (bchain HY1.out b2)
  obtain ⟨c0, c1, c2, c3, c4, c5, c6, c7, c8, c9, c10⟩ := two_cells (HB.out.2.1.below HX2.out)
  have lz := (HB.out.2.1.below HX2.out).1
  clear b2
  go_wp2_with fail
  (with_reducible refine (HC.out.2.2.2.2.1 _ HX2.out).mono ?_)
  rintro e V3 ⟨rfl, b3⟩
  clear c0 c1 c2 c3 c4 c5 c6 c7 c8 c9 c10 lz
  have HX3 := Lib.hid (bchain HX2.out b3)
  have HY3 := Lib.hid (bchain HY2.out b3)
  obtain ⟨c0, c1, c2, c3, c4, c5, c6, c7, c8, c9, c10⟩ := one_cells (HB.out.1.below HX3.out)
  have lz := (HB.out.1.below HX3.out).1
  clear b3
  go_wp2_with fail
  (with_reducible refine (HC.out.2.2.2.2.2.1 _ HX3.out).mono ?_)
  rintro e V4 ⟨rfl, b4⟩
  clear c0 c1 c2 c3 c4 c5 c6 c7 c8 c9 c10 lz
  have HX4 := Lib.hid (bchain HX3.out b4)
  have HY4 := Lib.hid (bchain HY3.out b4)
  obtain ⟨c0, c1, c2, c3, c4, c5, c6, c7, c8, c9, c10⟩ := one_cells (HB.out.1.below HX4.out)
  have lz := (HB.out.1.below HX4.out).1
  clear b4
  go_wp2_with fail
  (with_reducible refine (HC.out.2.2.2.2.2.2 _ HX4.out).mono ?_)
  rintro e V5 ⟨rfl, b5⟩
  clear c0 c1 c2 c3 c4 c5 c6 c7 c8 c9 c10 lz
  have HX5 := Lib.hid (bchain HX4.out b5)
  have HY5 := Lib.hid (bchain HY4.out b5)
  obtain ⟨c0, c1, c2, c3, c4, c5, c6, c7, c8, c9, c10⟩ := one_cells (HV.out.2.2.below HY5.out)
  have lz := (HV.out.2.2.below HY5.out).1
  clear b5
  go_wp2_with fail
  (with_reducible refine (HV.out.2.1 _ HY5.out).mono ?_)
  rintro e V6 ⟨rfl, b6⟩
  have HX6 := Lib.hid (bchain HX5.out b6)
  clear c0 c1 c2 c3 c4 c5 c6 c7 c8 c9 c10 lz b6
  go_wp2
  go_ret
  exact ⟨rfl, bchain HB.out.2.2 HX6.out⟩
end Go.Proofs.YtmnkgnoljllnnaaDoor

/-
  lockbarref05.May, Right.
-/
namespace Go.Proofs.YtmnkgnoljllnnaaDoor
open Go.RowKit Go.Shelf

set_option maxHeartbeats 2000000 in
theorem rMay_any (s q : Int) (w : World) :
    Calls Tryd.prog 68 #[.agg #[.int .i64 s, .int .i64 q]] w fun e w' => e = .returned (.bool (mayT s q)) ∧ Below w.heap.size w w' := by
  have hr : (s = -1 ∧ q = 0 → mayT s q = true) ∧ (¬ (s = -1 ∧ q = 0) → mayT s q = (decide (0 ≤ s) && decide (s < 24) && decide (0 ≤ q) && decide (q ≤ 3))) := by
    unfold mayT
    refine ⟨?_, fun h => ?_⟩
    · rintro ⟨rfl, rfl⟩; rfl
    · rw [show (s == -1 && q == 0) = false by simp; omega, Bool.false_or]
  generalize mayT s q = r at hr ⊢
  by_cases h : s = -1 ∧ q = 0
  · obtain rfl := hr.1 h
    obtain ⟨rfl, rfl⟩ := h
    clear hr
    go_enter Tryd.func68, Tryd.ntmps68
    go_wp2
    go_ret
    exact ⟨rfl, bself⟩
  · obtain rfl := hr.2 h
    clear hr
    have h' : ¬ s = -1 ∨ (s = -1 ∧ ¬ q = 0) := by omega
    clear h
    rcases h' with h | ⟨rfl, h⟩
    · by_cases h0 : 0 ≤ s
      · have d0 : decide (0 ≤ s) = true := decide_eq_true h0
        by_cases h1 : s < 24
        · have d1 : decide (s < 24) = true := decide_eq_true h1
          by_cases h2 : 0 ≤ q
          · have d2 : decide (0 ≤ q) = true := decide_eq_true h2
            have e : decide (q ≤ 3) = decide (q < 4) := by rw [decide_eq_decide]; omega
            rw [d0, d1, d2, e]
            go_enter Tryd.func68, Tryd.ntmps68
            go_wp2
            all_goals
              go_ret
              exact ⟨by simp [*], bself⟩
          · have d2 : decide (0 ≤ q) = false := decide_eq_false h2
            rw [d0, d1, d2]
            go_enter Tryd.func68, Tryd.ntmps68
            go_wp2
            all_goals
              go_ret
              exact ⟨rfl, bself⟩
        · have d1 : decide (s < 24) = false := decide_eq_false h1
          rw [d0, d1]
          go_enter Tryd.func68, Tryd.ntmps68
          go_wp2
          all_goals
            go_ret
            exact ⟨rfl, bself⟩
      · have d0 : decide (0 ≤ s) = false := decide_eq_false h0
        rw [d0]
        go_enter Tryd.func68, Tryd.ntmps68
        go_wp2
        all_goals
          go_ret
          exact ⟨rfl, bself⟩
    · go_enter Tryd.func68, Tryd.ntmps68
      go_wp2
      all_goals
        go_ret
        exact ⟨rfl, bself⟩

theorem kPorts_nn (k : Int) : 0 ≤ kPorts k := by
  rcases kCases k with ⟨_, h, _⟩ | ⟨_, h, _⟩ | ⟨_, h, _⟩ | ⟨_, _, _, h, _⟩ <;> omega
theorem rightT_facts (c : Sec) : (∀ i, i < 4 → portT c i = false → rightT c = false) ∧ (∀ i, i < 2 → classT c i = false → rightT c = false) ∧
    ((∀ i, i < 4 → portT c i = true) → (∀ i, i < 2 → classT c i = true) → rightT c = decide (0 < kPorts c.k)) := by
  have e : (kPorts c.k != 0) = decide (0 < kPorts c.k) := by
    have := kPorts_nn c.k
    rw [Bool.eq_iff_iff]
    simp
    omega
  unfold rightT
  refine ⟨fun i hi h => ?_, fun i hi h => ?_, fun h g => ?_⟩
  · obtain rfl | rfl | rfl | rfl : i = 0 ∨ i = 1 ∨ i = 2 ∨ i = 3 := by omega
    all_goals simp [h]
  · obtain rfl | rfl : i = 0 ∨ i = 1 := by omega
    all_goals simp [h]
  · rw [h 0 (by omega), h 1 (by omega), h 2 (by omega), h 3 (by omega), g 0 (by omega), g 1 (by omega), e]
    simp

set_option maxRecDepth 100000 in
set_option maxHeartbeats 8000000 in
theorem rRight5_any (c : Sec) (w : World) :
    Calls Tryd.prog 37 #[.agg c.enc.toArray] w fun e w' => e = .returned (.bool (rightT c)) ∧ Below w.heap.size w w' := by
  have hr := rightT_facts c
  generalize rightT c = r at hr ⊢
  have hp := fun w1 => rPorts_any c.k w1
  have hw := fun w1 => rWays_any c.k w1
  have hpt : ∀ i, portT c i = if (i : Int) < kPorts c.k then mayT (c.S i) (c.P i) else (c.S i == -1 && c.P i == 0) := fun _ => rfl
  have hct : ∀ i, classT c i = (decide (0 ≤ c.C i) && decide (c.C i ≤ 3) && (decide (c.C i ≤ 0) || decide ((i : Int) < kMany c.k))) := fun _ => rfl
  obtain ⟨np, hnp⟩ : ∃ np, np = kPorts c.k := ⟨_, rfl⟩
  obtain ⟨nm, hnm⟩ : ∃ nm, nm = kMany c.k := ⟨_, rfl⟩
  rw [← hnp] at hp hr hpt
  rw [← hnm] at hw hct
  have HR := Lib.hid hr
  have HP := Lib.hid hp
  have HW := Lib.hid hw
  have HPT := Lib.hid hpt
  have HCT := Lib.hid hct
  clear hr hp hw hpt hct hnp hnm
  have hS := BoxS.make w c
  unfold Sec.enc at hS
  unfold Sec.enc
  go_enter Tryd.func37, Tryd.ntmps37
  go_wp2_with fail
  obtain ⟨Y, hY⟩ : ∃ Y, Y = w.alloc (.cells #[.int .u8 c.k, .int .i64 c.s0, .int .i64 c.p0, .int .i64 c.s1, .int .i64 c.p1, .int .i64 c.s2, .int .i64 c.p2, .int .i64 c.s3, .int .i64 c.p3, .int .i64 c.c0, .int .i64 c.c1] 48) := ⟨_, rfl⟩
  have HB : Hid (Below w.heap.size w Y) := Lib.hid (by rw [hY]; exact bself)
  have HS : Hid (BoxS Y w.heap.size c) := Lib.hid (by rw [hY]; exact hS)
  rw [← hY]
  clear hY hS
  go_loopw [3] (fun x3 wr => ∃ n : Nat, n ≤ 4 ∧ x3 = .int .i64 n ∧ Hid (∀ j, j < n → portT c j = true) ∧ Hid (Below Y.heap.size Y wr)) (fun x3 _ => 4 - (intOf x3).toNat)
  case atStart => exact ⟨0, by omega, rfl, Lib.hid (fun j hj => absurd hj (Nat.not_lt_zero _)), Lib.hid (Below.refl _ _)⟩
  case round =>
    obtain ⟨n, hn, rfl, HJ, HBr⟩ := hrel
    obtain ⟨V, rfl⟩ : ∃ V : World, V = wr := ⟨_, rfl⟩
    by_cases hn4 : n < 4
    · have xS := HS.out.below HBr.out
      have k0 := xS.cells.1
      obtain ⟨cS, cP⟩ := xS.ports n hn4
      have lg := xS.1
      have hpn := HPT.out n
      have hrf := HR.out.1 n hn4
      generalize c.S n = sn at cS cP hpn
      generalize c.P n = pn at cP hpn
      have hm := fun w1 => rMay_any sn pn w1
      obtain ⟨pt, hpte⟩ : ∃ pt, pt = portT c n := ⟨_, rfl⟩
      rw [← hpte] at hpn hrf
      have next : pt = true → Hid (∀ j, j < n + 1 → portT c j = true) := fun h => Lib.hid fun j hj => by
        by_cases e : j = n
        · subst e; rw [← hpte]; exact h
        · exact HJ.out j (by omega)
      have NX := Lib.hid next
      clear hpte xS next
      have hn3 : (n : Int) < 4 := by omega
      by_cases hlt : (n : Int) < np
      · rw [if_pos hlt] at hpn
        have d0 : decide ((n : Int) < np) = true := decide_eq_true hlt
        have d1 : decide (np ≤ (n : Int)) = false := decide_eq_false (by omega)
        rw [← hpn] at hm
        have HM := Lib.hid hm
        clear hm hpn
        go_wp2_with fail
        (with_reducible refine (HP.out _).mono ?_)
        rintro e w1 ⟨rfl, b1⟩
        obtain ⟨c1, f1, l1⟩ := bcell b1
        have lg1 := l1 _ lg
        go_wp2_with fail
        (with_reducible refine (HM.out _).mono ?_)
        rintro e w2 ⟨rfl, b2⟩
        obtain ⟨c2, f2, l2⟩ := bcell b2
        have lg2 := l2 _ lg1
        have HB2 := Lib.hid (bchain (bchain HBr.out b1) b2)
        clear b1 b2 f1 l1 f2 l2
        cases pt
        · obtain rfl := hrf rfl
          go_wp2
          go_ret
          exact ⟨rfl, bchain HB.out HB2.out⟩
        · go_wp2_with fail
          (with_reducible refine (HP.out _).mono ?_)
          rintro e w3 ⟨rfl, b3⟩
          have HB3 := Lib.hid (bchain HB2.out b3)
          clear b3
          go_wp2
          go_roundw
          case rel => exact ⟨n + 1, by omega, by go_num, NX.out (by simp), HB3⟩
          case measure => simp [intOf]; omega
      · rw [if_neg hlt] at hpn
        have d0 : decide ((n : Int) < np) = false := decide_eq_false hlt
        have d1 : decide (np ≤ (n : Int)) = true := decide_eq_true (by omega)
        clear hm
        go_wp2_with fail
        (with_reducible refine (HP.out _).mono ?_)
        rintro e w1 ⟨rfl, b1⟩
        obtain ⟨c1, f1, l1⟩ := bcell b1
        have lg1 := l1 _ lg
        go_wp2_with fail
        (with_reducible refine (HP.out _).mono ?_)
        rintro e w2 ⟨rfl, b2⟩
        obtain ⟨c2, f2, l2⟩ := bcell b2
        have lg2 := l2 _ lg1
        have HB2 := Lib.hid (bchain (bchain HBr.out b1) b2)
        clear b1 b2 f1 l1 f2 l2
        by_cases h1 : sn = -1
        · subst h1
          by_cases h2 : pn = 0
          · subst h2
            have ht : pt = true := hpn
            subst ht
            clear hpn hrf
            go_wp2
            go_roundw
            case rel => exact ⟨n + 1, by omega, by go_num, NX.out (by simp), HB2⟩
            case measure => simp [intOf]; omega
          · have ht : pt = false := by rw [hpn]; simp [h2]
            obtain rfl := hrf ht
            clear hpn hrf ht
            go_wp2
            go_ret
            exact ⟨rfl, bchain HB.out HB2.out⟩
        · have ht : pt = false := by rw [hpn]; simp [h1]
          obtain rfl := hrf ht
          clear hpn hrf ht
          go_wp2
          go_ret
          exact ⟨rfl, bchain HB.out HB2.out⟩
    have HJ4 : Hid (∀ j, j < 4 → portT c j = true) := Lib.hid fun j hj => HJ.out j (by omega)
    have d4 : decide ((n : Int) < 4) = false := decide_eq_false (by omega)
    clear hn HJ
    go_wp2_with fail
    clear hn4 d4
    go_loopw [4] (fun x4 wr => ∃ m : Nat, m ≤ 2 ∧ x4 = .int .i64 m ∧ Hid (∀ j, j < m → classT c j = true) ∧ Hid (Below Y.heap.size Y wr)) (fun x4 _ => 2 - (intOf x4).toNat)
    case atStart => exact ⟨0, by omega, rfl, Lib.hid (fun j hj => absurd hj (Nat.not_lt_zero _)), HBr⟩
    case round =>
      obtain ⟨m, hm, rfl, HC, HBm⟩ := hrel
      obtain ⟨U, rfl⟩ : ∃ U : World, U = wr := ⟨_, rfl⟩
      have xS := HS.out.below HBm.out
      have k0 := xS.cells.1
      have lg := xS.1
      by_cases hm2 : m < 2
      · have kc := xS.classes m hm2
        have hct := HCT.out m
        have hrf := HR.out.2.1 m hm2
        generalize c.C m = cm at kc hct
        obtain ⟨ct, hcte⟩ : ∃ ct, ct = classT c m := ⟨_, rfl⟩
        rw [← hcte] at hct hrf
        have next : ct = true → Hid (∀ j, j < m + 1 → classT c j = true) := fun h => Lib.hid fun j hj => by
          by_cases e : j = m
          · subst e; rw [← hcte]; exact h
          · exact HC.out j (by omega)
        have NX := Lib.hid next
        clear hcte xS next
        have hm3 : (m : Int) < 2 := by omega
        by_cases a0 : 0 ≤ cm
        · have d0 : decide (cm < 0) = false := decide_eq_false (by omega)
          by_cases a1 : cm ≤ 3
          · have d1 : decide (3 < cm) = false := decide_eq_false (by omega)
            by_cases a2 : (m : Int) < nm
            · have d2 : decide (nm ≤ (m : Int)) = false := decide_eq_false (by omega)
              have ht : ct = true := by rw [hct]; simp [a0, a1, a2]
              subst ht
              clear hct hrf
              go_wp2_with fail
              (with_reducible refine (HW.out _).mono ?_)
              rintro e w1 ⟨rfl, b1⟩
              have HB1 := Lib.hid (bchain HBm.out b1)
              clear b1
              go_wp2
              go_roundw
              case rel => exact ⟨m + 1, by omega, by go_num, NX.out (by simp), HB1⟩
              case measure => simp [intOf]; omega
            · have d2 : decide (nm ≤ (m : Int)) = true := decide_eq_true (by omega)
              go_wp2_with fail
              (with_reducible refine (HW.out _).mono ?_)
              rintro e w1 ⟨rfl, b1⟩
              obtain ⟨c1, f1, l1⟩ := bcell b1
              have lg1 := l1 _ lg
              have HB1 := Lib.hid (bchain HBm.out b1)
              clear b1 f1 l1
              by_cases a3 : cm = 0
              · subst a3
                have ht : ct = true := by rw [hct]; simp
                subst ht
                clear hct hrf
                go_wp2
                go_roundw
                case rel => exact ⟨m + 1, by omega, by go_num, NX.out (by simp), HB1⟩
                case measure => simp [intOf]; omega
              · have ht : ct = false := by rw [hct]; simp; omega
                obtain rfl := hrf ht
                have d3 : (cm == 0) = false := by simpa using a3
                clear hct hrf ht
                go_wp2
                go_ret
                exact ⟨rfl, bchain HB.out HB1.out⟩
          · have d1 : decide (3 < cm) = true := decide_eq_true (by omega)
            have ht : ct = false := by rw [hct]; simp [a1]
            obtain rfl := hrf ht
            clear hct hrf ht
            go_wp2
            go_ret
            exact ⟨rfl, bchain HB.out HBm.out⟩
        · have d0 : decide (cm < 0) = true := decide_eq_true (by omega)
          have ht : ct = false := by rw [hct]; simp [a0]
          obtain rfl := hrf ht
          clear hct hrf ht
          go_wp2
          go_ret
          exact ⟨rfl, bchain HB.out HBm.out⟩
      obtain rfl : m = 2 := by omega
      obtain rfl := HR.out.2.2 HJ4.out HC.out
      clear hm2 hm
      go_wp2_with fail
      (with_reducible refine (HP.out _).mono ?_)
      rintro e w1 ⟨rfl, b1⟩
      go_wp2
      go_ret
      exact ⟨rfl, bchain (bchain HB.out HBm.out) b1⟩
end Go.Proofs.YtmnkgnoljllnnaaDoor

/-
  lockbarref07.Joined.
-/
namespace Go.Proofs.YtmnkgnoljllnnaaDoor
open Go.RowKit Go.Shelf

theorem mem_pj {L : Lay} {s : Int} {j : Nat} : j ∈ pj L s 4 ↔ j < 4 ∧ hasB L s j = true := by
  have key : ∀ n, j ∈ pj L s n ↔ j < n ∧ hasB L s j = true := by
    intro n
    induction n with
    | zero => simp [pj]
    | succ n ih =>
      unfold pj
      rw [List.mem_append, ih]
      by_cases hb : hasB L s (n : Nat) = true
      · rw [if_pos hb, List.mem_singleton]
        constructor
        · rintro (⟨h1, h2⟩ | rfl)
          · exact ⟨by omega, h2⟩
          · exact ⟨by omega, hb⟩
        · rintro ⟨h1, h2⟩
          by_cases e : j = n
          · exact .inr e
          · exact .inl ⟨by omega, h2⟩
      · rw [if_neg hb]
        constructor
        · rintro (⟨h1, h2⟩ | h)
          · exact ⟨by omega, h2⟩
          · cases h
        · rintro ⟨h1, h2⟩
          by_cases e : j = n
          · subst e; exact absurd h2 hb
          · exact .inl ⟨by omega, h2⟩
  exact key 4
theorem kPorts_ge (k : Int) : 0 ≤ kPorts k := by
  unfold kPorts
  split <;> first | omega | (split <;> first | omega | (split <;> omega))
theorem port_of {L : Lay} {i j : Nat} {c : Sec} (hc : L.secs[i]? = some c) (hj : (j : Int) < kPorts c.k) : hasB L (i : Nat) (j : Nat) = true ∧ beyL L (i : Nat) (j : Nat) = ⟨c.S j, c.P j⟩ := by
  have hs : secAt L (i : Nat) = some c := by
    unfold secAt
    rw [if_pos (by omega), Int.toNat_natCast, hc]
  unfold hasB beyL atO
  rw [hs, Option.bind_some, if_pos ⟨by omega, hj⟩]
  exact ⟨rfl, rfl⟩
theorem port_un {L : Lay} {i j : Nat} {c : Sec} (hc : L.secs[i]? = some c) (hj : kPorts c.k ≤ (j : Int)) : hasB L (i : Nat) (j : Nat) = false := by
  have hs : secAt L (i : Nat) = some c := by
    unfold secAt
    rw [if_pos (by omega), Int.toNat_natCast, hc]
  unfold hasB atO
  rw [hs, Option.bind_some, if_neg (by omega)]
  rfl

set_option maxRecDepth 100000 in
set_option maxHeartbeats 16000000 in
theorem rJoined_any (L : Lay) (P : Where) (w : World) (hL : LayAt w P L) :
    Calls Tryd.prog 19 #[L.val P] w fun e w' => e = .returned (.bool (joinedL L)) ∧ Below w.heap.size w w' := by
  have hr := joinedL_facts L
  generalize joinedL L = r at hr ⊢
  have m0 : L.secs.length ≤ 9223372036854775807 := Nat.le_trans hL.l0.1 hL.l0.2
  obtain ⟨a0, a1, a2, a3, p0, p1, p2, p3⟩ := P
  have HR := Lib.hid hr
  have HL := Lib.hid hL
  clear hr hL
  unfold Lay.val
  go_enter Tryd.func19, Tryd.ntmps19
  go_wp2_with fail
  obtain ⟨X, hX⟩ : ∃ X, X = w.alloc (.cells #[.slice a0 L.secs.length p0, .slice a1 L.sigs.length p1, .slice a2 L.exits.length p2, .slice a3 L.flanks.length p3, .int .i64 L.t0, .int .i64 L.t1, .int .i64 L.t2, .int .i64 L.t3, .int .i64 L.t4, .int .i64 L.t5, .int .i64 L.t6] 29) := ⟨_, rfl⟩
  have hBX : Below w.heap.size w X := by rw [hX]; exact bself
  have hBL : BoxL X w.heap.size L ⟨a0, a1, a2, a3, p0, p1, p2, p3⟩ := by rw [hX]; exact BoxL.make (L := L) (p := ⟨a0, a1, a2, a3, p0, p1, p2, p3⟩) _ rfl
  rw [← hX]
  have HX := Lib.hid (⟨hBX, hBL⟩ : _ ∧ _)
  clear hX hBX hBL
  go_loopw [3] (fun c wr => ∃ i : Nat, i ≤ L.secs.length ∧ i ≤ 24 ∧ c = .int .i64 i ∧ Hid (Below X.heap.size X wr) ∧ Hid (∀ j, j < i → secFine L j = true)) (fun c _ => L.secs.length - (intOf c).toNat)
  case atStart => exact ⟨0, Nat.zero_le _, by omega, rfl, Lib.hid (Below.refl _ _), Lib.hid (fun j hj => absurd hj (Nat.not_lt_zero _))⟩
  case round =>
    obtain ⟨i, hi, hi24, rfl, HBr, HJ⟩ := hrel
    have hbx := HX.out.2.below HBr.out
    obtain ⟨c0, c1, c2, c3, c4, c5, c6, c7, c8, c9, c10⟩ := hbx.cells
    have lg := hbx.1
    dsimp only at c0 c1 c2 c3
    clear hbx
    by_cases hlt : i < L.secs.length
    · by_cases h24 : i < 24
      · have d24 : decide ((i : Int) < 24) = true := decide_eq_true (by omega)
        obtain ⟨b, off, e0, hrow⟩ := (HL.out.below (bchain HX.out.1 HBr.out)).secs.get hlt
        dsimp only at e0
        subst e0
        obtain ⟨c, hc⟩ : ∃ c, L.secs[i]? = some c := ⟨L.secs[i], List.getElem?_eq_getElem hlt⟩
        obtain ⟨k0, k1, k2, k3, k4, k5, k6, k7, k8, k9, k10⟩ := sec_cells hrow hc
        have lb := hrow.1
        have hright := rRight5_any c (wr.alloc (.cells c.enc.toArray 48))
        have hsf := secFine_eq hc
        obtain ⟨q, hq⟩ : ∃ q, q = rightT c := ⟨_, rfl⟩
        rw [← hq] at hright hsf
        unfold Sec.enc at hright
        have HRT := Lib.hid hright
        have HC := Lib.hid hc
        clear hright hq hrow hc
        go_wp2_with fail
        (with_reducible refine HRT.out.mono ?_)
        rintro e w1 ⟨rfl, b1⟩
        have hbs : BoxS w1 wr.heap.size c := (BoxS.make wr c).below b1
        have HB1 := Lib.hid (bchain HBr.out (bnew b1))
        clear b1 k0 k1 k2 k3 k4 k5 k6 k7 k8 k9 k10 c0 c1 c2 c3 c4 c5 c6 c7 c8 c9 c10 lg HRT d24
        have HBS := Lib.hid hbs
        cases q with
        | false =>
          obtain rfl : r = false := HR.out.2.1 i hlt (by rw [hsf]; rfl)
          clear hbs hsf
          go_wp2
          go_ret
          exact ⟨rfl, bchain HX.out.1 HB1.out⟩
        | true =>
          rw [Bool.true_and] at hsf
          have HSF := Lib.hid hsf
          clear hbs hsf
          go_wp2_with fail
          obtain ⟨V, hV⟩ : ∃ V, V = w1 := ⟨_, rfl⟩
          rw [← hV] at HB1 HBS ⊢
          have HXI := HB1
          clear hV
          obtain ⟨m, hm⟩ : ∃ m : Nat, kPorts c.k = (m : Int) := ⟨(kPorts c.k).toNat, by have := kPorts_ge c.k; omega⟩
          have hm4 : m ≤ 4 := by have := kPorts_le c.k; omega
          have hcc := HC.out
          have hpo := fun (j : Nat) (h : j < m) => port_of (i := i) (j := j) hcc (by omega)
          have hun := fun (j : Nat) (h : j < 4) (h2 : hasB L (i : Nat) (j : Nat) = true) => show j < m from by
            by_cases e : j < m
            · exact e
            · have := port_un (i := i) (j := j) hcc (by omega)
              rw [this] at h2
              cases h2
          have hports := fun W => rPorts_any c.k W
          rw [hm] at hports
          have HPO := Lib.hid (⟨hpo, hun⟩ : _ ∧ _)
          have HPT := Lib.hid hports
          generalize wr.heap.size = g4 at HBS ⊢
          clear hcc hpo hun hports hm
          go_loopw [5] (fun cc wi => ∃ j : Nat, j ≤ m ∧ cc = .int .i64 j ∧ Hid (Below V.heap.size V wi) ∧ Hid (∀ t, t < j → joinB L (i : Nat) t = true)) (fun cc _ => m - (intOf cc).toNat)
          case atStart => exact ⟨0, by omega, rfl, Lib.hid (Below.refl _ _), Lib.hid (fun j hj => absurd hj (Nat.not_lt_zero _))⟩
          case round =>
            obtain ⟨j, hj, rfl, HBi, HN⟩ := hrel
            obtain ⟨wi, rfl⟩ : ∃ wi : World, wi = wr := ⟨_, rfl⟩
            have hbi := HBS.out.below HBi.out
            obtain ⟨s0, s1, s2, s3, s4, s5, s6, s7, s8, s9, s10⟩ := hbi.cells
            have l4 := hbi.1
            clear hbi s1 s2 s3 s4 s5 s6 s7 s8 s9 s10
            by_cases hjm : j < m
            · go_wp2_with fail
              (with_reducible refine (HPT.out _).mono ?_)
              rintro e w3 ⟨rfl, b3⟩
              have hb3 := HBS.out.below (bchain HBi.out b3)
              have hj4 : j < 4 := by omega
              obtain ⟨s1, s2⟩ := hb3.ports j hj4
              have l43 := hb3.1
              have hz := HPO.out.1 j hjm
              have HB3 := Lib.hid (bchain HBi.out b3)
              have hj44 : (j : Int) < 4 := by omega
              clear hb3 b3 s0 l4
              go_wp2_with fail
              obtain ⟨U, hU⟩ : ∃ U, U = w3.alloc (.cells #[.int .i64 (c.S j), .int .i64 (c.P j)] 37) := ⟨_, rfl⟩
              have BY : Below w3.heap.size w3 U := by rw [hU]; exact bself
              have l6 : w3.heap.size < U.heap.size := by rw [hU]; simp
              have y0 : ∀ V', ClB U V' → V'.cell? ⟨w3.heap.size, 0, none⟩ = some (.int .i64 (c.S j)) := fun V' h => (h.cell (p := ⟨w3.heap.size, 0, none⟩) l6).trans (by rw [hU]; simp [go_sem])
              have y1 : ∀ V', ClB U V' → V'.cell? ⟨w3.heap.size, 1, none⟩ = some (.int .i64 (c.P j)) := fun V' h => (h.cell (p := ⟨w3.heap.size, 1, none⟩) l6).trans (by rw [hU]; simp [go_sem])
              have hXU := bchain HXI.out (bchain HB3.out BY)
              have HLW := Lib.hid (HL.out.below (bchain HX.out.1 hXU))
              have HBX := Lib.hid (HX.out.2.below hXU)
              have hjb := joinB_eq L (i : Nat) j
              have HHB := Lib.hid hz.1
              rw [hz.2] at hjb
              rw [← hU]
              have HBU := Lib.hid (bchain HB3.out BY)
              clear hz hXU s1 s2 l43 hU BY l6
              generalize w3.heap.size = g6 at y0 y1 ⊢
              generalize c.S j = zs at y0 hjb ⊢
              generalize c.P j = zp at y1 hjb ⊢
              dsimp only at hjb
              have HH0 := fun V' (h : ClB U V') => rHas_any L ⟨some ⟨b, off, none⟩, a1, a2, a3, p0, p1, p2, p3⟩ zs zp V' (HLW.out.below h)
              have HY0 := fun V' (h : ClB U V') => rBey_any L ⟨some ⟨b, off, none⟩, a1, a2, a3, p0, p1, p2, p3⟩ zs zp V' (HLW.out.below h)
              by_cases hE : zs = -1 ∧ zp = 0
              · obtain ⟨rfl, rfl⟩ := hE
                have HJB := Lib.hid (show joinB L (i : Nat) j = true by rw [hjb]; simp [endP])
                clear HH0 HY0 hjb
                have hqE : ∀ V', (Op.equalIn 10000 37 (.agg #[.int .i64 (-1), .int .i64 0]) (.agg #[.int .i64 (-1), .int .i64 0])).run Tryd.prog V' = .ok true V' := fun V' => by rw [eqQ_portI]; simp
                focus
                  refine wp_region_rel_below [([(6, none)], none), ([], none), ([(37, some 1), (38, some 0)], none), ([(39, some 0)], none), ([(1, none), (40, some 0)], some (40, true)), ([(6, none), (40, some 1)], some (40, true)), ([(41, some 1), (42, some 0), (40, some 2)], some (40, true)), ([(43, some 0), (40, some 3)], some (40, true)), ([(44, some 0), (40, some 4)], some (40, true)), ([(6, none), (45, some 0)], some (45, false)), ([(46, some 0), (45, some 1)], some (45, false)), ([(3, none), (45, some 2)], some (45, false)), ([(47, some 1), (48, some 0), (45, some 3)], some (45, false)), ([(45, some 4), (49, some 0), (40, some 9)], some (40, true)), ([(50, some 0), (40, some 10)], some (40, true)), ([(1, none), (51, some 0)], some (51, false)), ([(6, none), (51, some 1)], some (51, false)), ([(52, some 1), (53, some 0), (51, some 2)], some (51, false)), ([(3, none), (51, some 3)], some (51, false)), ([(5, none), (51, some 4)], some (51, false)), ([(55, some 1), (56, some 0), (51, some 5)], some (51, false)), ([(54, some 3), (57, some 0), (51, some 6)], some (51, false)), ([(51, some 7), (58, some 0), (40, some 18)], some (40, true)), ([(40, some 19), (59, some 0)], none)] [(0, 60)] (by kernel_rfl) (by kernel_rfl) ?_
                  refine ob_det (c := .agg #[.int .i64 (-1), .int .i64 0]) ?_ ?_
                  · intro ρ W hk hC
                    simp only [seen, obOp]
                    rintro h6
                    replace h6 : ρ (.tmp 6) = .pointer (some ⟨g6, 0, none⟩) := h6.trans rfl
                    exact rel_value (by simp [go_sem, h6, y0 W hC, y1 W hC]) hC
                  refine ob_det (c := .agg #[.int .i64 (-1), .int .i64 0]) ?_ ?_
                  · intro ρ W hk hC
                    simp only [seen, obOp]
                    exact rel_call (f := 31) (args := #[]) (by simp [go_sem, hk.func]) hC (rNone_any W)
                  refine ob_det (c := .bool false) ?_ ?_
                  · intro ρ W hk hC
                    simp only [seen, obOp, List.getD_cons_zero, List.getD_cons_succ]
                    rintro h37 h38
                    exact rel_value (by simp [go_sem, h37, h38, hqE]) hC
                  refine ob_det (c := .bool false) ?_ ?_
                  · intro ρ W hk hC
                    simp only [seen, obOp, List.getD_cons_zero]
                    rintro h39
                    exact rel_value (by simp [go_sem, h39]) hC
                  refine ob_det (c := undef) ?_ ?_
                  · intro ρ W hk hC
                    simp only [seen, obOp, List.getD_cons_zero]
                    rintro h1 h40
                    replace h1 : ρ (.tmp 1) = .pointer (some ⟨w.heap.size, 0, none⟩) := h1.trans rfl
                    exact ⟨fun h => absurd (h.symm.trans h40) (by first | simp | simp [undef]), fun _ => by trivial⟩
                  refine ob_det (c := undef) ?_ ?_
                  · intro ρ W hk hC
                    simp only [seen, obOp, List.getD_cons_zero, List.getD_cons_succ]
                    rintro h6 h40
                    replace h6 : ρ (.tmp 6) = .pointer (some ⟨g6, 0, none⟩) := h6.trans rfl
                    exact ⟨fun h => absurd (h.symm.trans h40) (by first | simp | simp [undef]), fun _ => by trivial⟩
                  refine ob_det (c := undef) ?_ ?_
                  · intro ρ W hk hC
                    simp only [seen, obOp, List.getD_cons_zero, List.getD_cons_succ]
                    rintro h41 h42 h40
                    exact ⟨fun h => absurd (h.symm.trans h40) (by first | simp | simp [undef]), fun _ => by trivial⟩
                  refine ob_det (c := undef) ?_ ?_
                  · intro ρ W hk hC
                    simp only [seen, obOp, List.getD_cons_zero, List.getD_cons_succ]
                    rintro h43 h40
                    exact ⟨fun h => absurd (h.symm.trans h40) (by first | simp | simp [undef]), fun _ => by trivial⟩
                  refine ob_det (c := undef) ?_ ?_
                  · intro ρ W hk hC
                    simp only [seen, obOp, List.getD_cons_zero, List.getD_cons_succ]
                    rintro h44 h40
                    exact ⟨fun h => absurd (h.symm.trans h40) (by first | simp | simp [undef]), fun _ => by trivial⟩
                  refine ob_det (c := undef) ?_ ?_
                  · intro ρ W hk hC
                    simp only [seen, obOp, List.getD_cons_zero]
                    rintro h6 h45
                    replace h6 : ρ (.tmp 6) = .pointer (some ⟨g6, 0, none⟩) := h6.trans rfl
                    exact ⟨fun h => absurd (h.symm.trans h45) (by first | simp | simp [undef]), fun _ => by trivial⟩
                  refine ob_det (c := undef) ?_ ?_
                  · intro ρ W hk hC
                    simp only [seen, obOp, List.getD_cons_zero, List.getD_cons_succ]
                    rintro h46 h45
                    exact ⟨fun h => absurd (h.symm.trans h45) (by first | simp | simp [undef]), fun _ => by trivial⟩
                  refine ob_det (c := undef) ?_ ?_
                  · intro ρ W hk hC
                    simp only [seen, obOp, List.getD_cons_zero, List.getD_cons_succ]
                    rintro h3 h45
                    replace h3 : ρ (.tmp 3) = .int .i64 (i : Nat) := h3.trans rfl
                    exact ⟨fun h => absurd (h.symm.trans h45) (by first | simp | simp [undef]), fun _ => by trivial⟩
                  refine ob_det (c := undef) ?_ ?_
                  · intro ρ W hk hC
                    simp only [seen, obOp, List.getD_cons_zero, List.getD_cons_succ]
                    rintro h47 h48 h45
                    exact ⟨fun h => absurd (h.symm.trans h45) (by first | simp | simp [undef]), fun _ => by trivial⟩
                  refine ob_det (c := undef) ?_ ?_
                  · intro ρ W hk hC
                    simp only [seen, obOp, List.getD_cons_zero, List.getD_cons_succ]
                    rintro h45 h49 h40
                    exact ⟨fun h => absurd (h.symm.trans h40) (by first | simp | simp [undef]), fun _ => by trivial⟩
                  refine ob_det (c := undef) ?_ ?_
                  · intro ρ W hk hC
                    simp only [seen, obOp, List.getD_cons_zero, List.getD_cons_succ]
                    rintro h50 h40
                    exact ⟨fun h => absurd (h.symm.trans h40) (by first | simp | simp [undef]), fun _ => by trivial⟩
                  refine ob_det (c := undef) ?_ ?_
                  · intro ρ W hk hC
                    simp only [seen, obOp, List.getD_cons_zero]
                    rintro h1 h51
                    replace h1 : ρ (.tmp 1) = .pointer (some ⟨w.heap.size, 0, none⟩) := h1.trans rfl
                    exact ⟨fun h => absurd (h.symm.trans h51) (by first | simp | simp [undef]), fun _ => by trivial⟩
                  refine ob_det (c := undef) ?_ ?_
                  · intro ρ W hk hC
                    simp only [seen, obOp, List.getD_cons_zero, List.getD_cons_succ]
                    rintro h6 h51
                    replace h6 : ρ (.tmp 6) = .pointer (some ⟨g6, 0, none⟩) := h6.trans rfl
                    exact ⟨fun h => absurd (h.symm.trans h51) (by first | simp | simp [undef]), fun _ => by trivial⟩
                  refine ob_det (c := undef) ?_ ?_
                  · intro ρ W hk hC
                    simp only [seen, obOp, List.getD_cons_zero, List.getD_cons_succ]
                    rintro h52 h53 h51
                    exact ⟨fun h => absurd (h.symm.trans h51) (by first | simp | simp [undef]), fun _ => by trivial⟩
                  refine ob_det (c := undef) ?_ ?_
                  · intro ρ W hk hC
                    simp only [seen, obOp, List.getD_cons_zero, List.getD_cons_succ]
                    rintro h3 h51
                    replace h3 : ρ (.tmp 3) = .int .i64 (i : Nat) := h3.trans rfl
                    exact ⟨fun h => absurd (h.symm.trans h51) (by first | simp | simp [undef]), fun _ => by trivial⟩
                  refine ob_det (c := undef) ?_ ?_
                  · intro ρ W hk hC
                    simp only [seen, obOp, List.getD_cons_zero, List.getD_cons_succ]
                    rintro h5 h51
                    replace h5 : ρ (.tmp 5) = .int .i64 (j : Nat) := h5.trans rfl
                    exact ⟨fun h => absurd (h.symm.trans h51) (by first | simp | simp [undef]), fun _ => by trivial⟩
                  refine ob_det (c := undef) ?_ ?_
                  · intro ρ W hk hC
                    simp only [seen, obOp, List.getD_cons_zero, List.getD_cons_succ]
                    rintro h55 h56 h51
                    exact ⟨fun h => absurd (h.symm.trans h51) (by first | simp | simp [undef]), fun _ => by trivial⟩
                  refine ob_det (c := undef) ?_ ?_
                  · intro ρ W hk hC
                    simp only [seen, obOp, List.getD_cons_zero, List.getD_cons_succ]
                    rintro h54 h57 h51
                    exact ⟨fun h => absurd (h.symm.trans h51) (by first | simp | simp [undef]), fun _ => by trivial⟩
                  refine ob_det (c := undef) ?_ ?_
                  · intro ρ W hk hC
                    simp only [seen, obOp, List.getD_cons_zero, List.getD_cons_succ]
                    rintro h51 h58 h40
                    exact ⟨fun h => absurd (h.symm.trans h40) (by first | simp | simp [undef]), fun _ => by trivial⟩
                  refine ob_det (c := .bool false) ?_ ?_
                  · intro ρ W hk hC
                    simp only [seen, obOp, List.getD_cons_zero, List.getD_cons_succ]
                    rintro h40 h59
                    exact rel_value (by simp [go_sem, h40, h59, hk.const]) hC
                  intro vs w5 hC5
                  simp only [endSeen, List.getD_cons_zero]
                  intro h60
                  simp only [writeAll, List.setIfInBounds_toArray, List.set_cons_zero, List.set_cons_succ, h60]
                  have HB5 := Lib.hid (bchain HBU.out hC5)
                  clear hC5
                  go_wp2
                  go_roundw
                  case rel => exact ⟨j + 1, by omega, by go_num, HB5, Lib.hid (fun t ht => by
                    by_cases e : t = j
                    · subst e; exact HJB.out
                    · exact HN.out t (by omega))⟩
                  case measure => simp [intOf]; omega
              have hqE : ∀ V', (Op.equalIn 10000 37 (.agg #[.int .i64 zs, .int .i64 zp]) (.agg #[.int .i64 (-1), .int .i64 0])).run Tryd.prog V' = .ok false V' := fun V' => by rw [eqQ_portI, decide_eq_false hE]
              have hnE : decide ((⟨zs, zp⟩ : Prt) = endP) = false := decide_eq_false (fun h => hE (by cases h; exact ⟨rfl, rfl⟩))
              rw [hnE, Bool.false_or] at hjb
              clear hE hnE
              unfold Lay.val at HH0 HY0
              cases hh : hasB L zs zp with
              | false =>
                rw [hh] at HH0 hjb
                have HH := Lib.hid HH0
                have HJB := Lib.hid (show joinB L (i : Nat) j = false by rw [hjb]; simp)
                clear HH0 HY0 hjb hh
                focus
                  refine wp_region_rel_below [([(6, none)], none), ([], none), ([(37, some 1), (38, some 0)], none), ([(39, some 0)], none), ([(1, none), (40, some 0)], some (40, true)), ([(6, none), (40, some 1)], some (40, true)), ([(41, some 1), (42, some 0), (40, some 2)], some (40, true)), ([(43, some 0), (40, some 3)], some (40, true)), ([(44, some 0), (40, some 4)], some (40, true)), ([(6, none), (45, some 0)], some (45, false)), ([(46, some 0), (45, some 1)], some (45, false)), ([(3, none), (45, some 2)], some (45, false)), ([(47, some 1), (48, some 0), (45, some 3)], some (45, false)), ([(45, some 4), (49, some 0), (40, some 9)], some (40, true)), ([(50, some 0), (40, some 10)], some (40, true)), ([(1, none), (51, some 0)], some (51, false)), ([(6, none), (51, some 1)], some (51, false)), ([(52, some 1), (53, some 0), (51, some 2)], some (51, false)), ([(3, none), (51, some 3)], some (51, false)), ([(5, none), (51, some 4)], some (51, false)), ([(55, some 1), (56, some 0), (51, some 5)], some (51, false)), ([(54, some 3), (57, some 0), (51, some 6)], some (51, false)), ([(51, some 7), (58, some 0), (40, some 18)], some (40, true)), ([(40, some 19), (59, some 0)], none)] [(0, 60)] (by kernel_rfl) (by kernel_rfl) ?_
                  refine ob_det (c := .agg #[.int .i64 zs, .int .i64 zp]) ?_ ?_
                  · intro ρ W hk hC
                    simp only [seen, obOp]
                    rintro h6
                    replace h6 : ρ (.tmp 6) = .pointer (some ⟨g6, 0, none⟩) := h6.trans rfl
                    exact rel_value (by simp [go_sem, h6, y0 W hC, y1 W hC]) hC
                  refine ob_det (c := .agg #[.int .i64 (-1), .int .i64 0]) ?_ ?_
                  · intro ρ W hk hC
                    simp only [seen, obOp]
                    exact rel_call (f := 31) (args := #[]) (by simp [go_sem, hk.func]) hC (rNone_any W)
                  refine ob_det (c := .bool true) ?_ ?_
                  · intro ρ W hk hC
                    simp only [seen, obOp, List.getD_cons_zero, List.getD_cons_succ]
                    rintro h37 h38
                    exact rel_value (by simp [go_sem, h37, h38, hqE]) hC
                  refine ob_det (c := .bool true) ?_ ?_
                  · intro ρ W hk hC
                    simp only [seen, obOp, List.getD_cons_zero]
                    rintro h39
                    exact rel_value (by simp [go_sem, h39]) hC
                  refine ob_det (c := .agg #[.slice (some ⟨b, off, none⟩) L.secs.length p0, .slice a1 L.sigs.length p1, .slice a2 L.exits.length p2, .slice a3 L.flanks.length p3, .int .i64 L.t0, .int .i64 L.t1, .int .i64 L.t2, .int .i64 L.t3, .int .i64 L.t4, .int .i64 L.t5, .int .i64 L.t6]) ?_ ?_
                  · intro ρ W hk hC
                    simp only [seen, obOp, List.getD_cons_zero]
                    rintro h1 h40
                    replace h1 : ρ (.tmp 1) = .pointer (some ⟨w.heap.size, 0, none⟩) := h1.trans rfl
                    refine ⟨fun _ => ?_, fun hn => absurd h40 hn⟩
                    exact rel_value (runLoad h1 (HBX.out.below hC)) hC
                  refine ob_det (c := .agg #[.int .i64 zs, .int .i64 zp]) ?_ ?_
                  · intro ρ W hk hC
                    simp only [seen, obOp, List.getD_cons_zero, List.getD_cons_succ]
                    rintro h6 h40
                    replace h6 : ρ (.tmp 6) = .pointer (some ⟨g6, 0, none⟩) := h6.trans rfl
                    refine ⟨fun _ => ?_, fun hn => absurd h40 hn⟩
                    exact rel_value (by simp [go_sem, h6, y0 W hC, y1 W hC]) hC
                  refine ob_det (c := .bool false) ?_ ?_
                  · intro ρ W hk hC
                    simp only [seen, obOp, List.getD_cons_zero, List.getD_cons_succ]
                    rintro h41 h42 h40
                    refine ⟨fun _ => ?_, fun hn => absurd h40 hn⟩
                    exact rel_call (f := 30) (args := #[.agg #[.slice (some ⟨b, off, none⟩) L.secs.length p0, .slice a1 L.sigs.length p1, .slice a2 L.exits.length p2, .slice a3 L.flanks.length p3, .int .i64 L.t0, .int .i64 L.t1, .int .i64 L.t2, .int .i64 L.t3, .int .i64 L.t4, .int .i64 L.t5, .int .i64 L.t6], .agg #[.int .i64 zs, .int .i64 zp]]) (by simp [go_sem, h41, h42, hk.func]) hC (HH.out W hC)
                  refine ob_det (c := .bool true) ?_ ?_
                  · intro ρ W hk hC
                    simp only [seen, obOp, List.getD_cons_zero, List.getD_cons_succ]
                    rintro h43 h40
                    refine ⟨fun _ => ?_, fun hn => absurd h40 hn⟩
                    exact rel_value (by simp [go_sem, h43]) hC
                  refine ob_det (c := .bool true) ?_ ?_
                  · intro ρ W hk hC
                    simp only [seen, obOp, List.getD_cons_zero, List.getD_cons_succ]
                    rintro h44 h40
                    refine ⟨fun _ => ?_, fun hn => absurd h40 hn⟩
                    exact rel_value (by simp [go_sem, h44]) hC
                  refine ob_det (c := undef) ?_ ?_
                  · intro ρ W hk hC
                    simp only [seen, obOp, List.getD_cons_zero]
                    rintro h6 h45
                    replace h6 : ρ (.tmp 6) = .pointer (some ⟨g6, 0, none⟩) := h6.trans rfl
                    exact ⟨fun h => absurd (h.symm.trans h45) (by first | simp | simp [undef]), fun _ => by trivial⟩
                  refine ob_det (c := undef) ?_ ?_
                  · intro ρ W hk hC
                    simp only [seen, obOp, List.getD_cons_zero, List.getD_cons_succ]
                    rintro h46 h45
                    exact ⟨fun h => absurd (h.symm.trans h45) (by first | simp | simp [undef]), fun _ => by trivial⟩
                  refine ob_det (c := undef) ?_ ?_
                  · intro ρ W hk hC
                    simp only [seen, obOp, List.getD_cons_zero, List.getD_cons_succ]
                    rintro h3 h45
                    replace h3 : ρ (.tmp 3) = .int .i64 (i : Nat) := h3.trans rfl
                    exact ⟨fun h => absurd (h.symm.trans h45) (by first | simp | simp [undef]), fun _ => by trivial⟩
                  refine ob_det (c := undef) ?_ ?_
                  · intro ρ W hk hC
                    simp only [seen, obOp, List.getD_cons_zero, List.getD_cons_succ]
                    rintro h47 h48 h45
                    exact ⟨fun h => absurd (h.symm.trans h45) (by first | simp | simp [undef]), fun _ => by trivial⟩
                  refine ob_det (c := .bool true) ?_ ?_
                  · intro ρ W hk hC
                    simp only [seen, obOp, List.getD_cons_zero, List.getD_cons_succ]
                    rintro h45 h49 h40
                    refine ⟨fun _ => ?_, fun hn => absurd h40 hn⟩
                    exact rel_value (by simp [go_sem, h45, h49, hk.const]) hC
                  refine ob_det (c := .bool true) ?_ ?_
                  · intro ρ W hk hC
                    simp only [seen, obOp, List.getD_cons_zero, List.getD_cons_succ]
                    rintro h50 h40
                    refine ⟨fun _ => ?_, fun hn => absurd h40 hn⟩
                    exact rel_value (by simp [go_sem, h50]) hC
                  refine ob_det (c := undef) ?_ ?_
                  · intro ρ W hk hC
                    simp only [seen, obOp, List.getD_cons_zero]
                    rintro h1 h51
                    replace h1 : ρ (.tmp 1) = .pointer (some ⟨w.heap.size, 0, none⟩) := h1.trans rfl
                    exact ⟨fun h => absurd (h.symm.trans h51) (by first | simp | simp [undef]), fun _ => by trivial⟩
                  refine ob_det (c := undef) ?_ ?_
                  · intro ρ W hk hC
                    simp only [seen, obOp, List.getD_cons_zero, List.getD_cons_succ]
                    rintro h6 h51
                    replace h6 : ρ (.tmp 6) = .pointer (some ⟨g6, 0, none⟩) := h6.trans rfl
                    exact ⟨fun h => absurd (h.symm.trans h51) (by first | simp | simp [undef]), fun _ => by trivial⟩
                  refine ob_det (c := undef) ?_ ?_
                  · intro ρ W hk hC
                    simp only [seen, obOp, List.getD_cons_zero, List.getD_cons_succ]
                    rintro h52 h53 h51
                    exact ⟨fun h => absurd (h.symm.trans h51) (by first | simp | simp [undef]), fun _ => by trivial⟩
                  refine ob_det (c := undef) ?_ ?_
                  · intro ρ W hk hC
                    simp only [seen, obOp, List.getD_cons_zero, List.getD_cons_succ]
                    rintro h3 h51
                    replace h3 : ρ (.tmp 3) = .int .i64 (i : Nat) := h3.trans rfl
                    exact ⟨fun h => absurd (h.symm.trans h51) (by first | simp | simp [undef]), fun _ => by trivial⟩
                  refine ob_det (c := undef) ?_ ?_
                  · intro ρ W hk hC
                    simp only [seen, obOp, List.getD_cons_zero, List.getD_cons_succ]
                    rintro h5 h51
                    replace h5 : ρ (.tmp 5) = .int .i64 (j : Nat) := h5.trans rfl
                    exact ⟨fun h => absurd (h.symm.trans h51) (by first | simp | simp [undef]), fun _ => by trivial⟩
                  refine ob_det (c := undef) ?_ ?_
                  · intro ρ W hk hC
                    simp only [seen, obOp, List.getD_cons_zero, List.getD_cons_succ]
                    rintro h55 h56 h51
                    exact ⟨fun h => absurd (h.symm.trans h51) (by first | simp | simp [undef]), fun _ => by trivial⟩
                  refine ob_det (c := undef) ?_ ?_
                  · intro ρ W hk hC
                    simp only [seen, obOp, List.getD_cons_zero, List.getD_cons_succ]
                    rintro h54 h57 h51
                    exact ⟨fun h => absurd (h.symm.trans h51) (by first | simp | simp [undef]), fun _ => by trivial⟩
                  refine ob_det (c := .bool true) ?_ ?_
                  · intro ρ W hk hC
                    simp only [seen, obOp, List.getD_cons_zero, List.getD_cons_succ]
                    rintro h51 h58 h40
                    refine ⟨fun _ => ?_, fun hn => absurd h40 hn⟩
                    exact rel_value (by simp [go_sem, h51, h58, hk.const]) hC
                  refine ob_det (c := .bool true) ?_ ?_
                  · intro ρ W hk hC
                    simp only [seen, obOp, List.getD_cons_zero, List.getD_cons_succ]
                    rintro h40 h59
                    exact rel_value (by simp [go_sem, h40, h59, hk.const]) hC
                  intro vs w5 hC5
                  simp only [endSeen, List.getD_cons_zero]
                  intro h60
                  simp only [writeAll, List.setIfInBounds_toArray, List.set_cons_zero, List.set_cons_succ, h60]
                  have HB5 := Lib.hid (bchain HXI.out (bchain HBU.out hC5))
                  clear hC5
                  go_wp2
                  go_ret
                  obtain rfl : r = false := HR.out.2.1 i hlt (by
                    rw [HSF.out, List.all_eq_false]
                    exact ⟨j, mem_pj.2 ⟨hj4, HHB.out⟩, by rw [HJB.out]; simp⟩)
                  exact ⟨rfl, bchain HX.out.1 HB5.out⟩
              | true =>
                rw [hh] at HH0 hjb
                have HH := Lib.hid HH0
                rw [Bool.and_true] at hjb
                by_cases hsi : zs = (i : Nat)
                · subst hsi
                  have HJB := Lib.hid (show joinB L (i : Nat) j = false by rw [hjb]; simp)
                  clear HH0 HY0 hjb hh
                  focus
                    refine wp_region_rel_below [([(6, none)], none), ([], none), ([(37, some 1), (38, some 0)], none), ([(39, some 0)], none), ([(1, none), (40, some 0)], some (40, true)), ([(6, none), (40, some 1)], some (40, true)), ([(41, some 1), (42, some 0), (40, some 2)], some (40, true)), ([(43, some 0), (40, some 3)], some (40, true)), ([(44, some 0), (40, some 4)], some (40, true)), ([(6, none), (45, some 0)], some (45, false)), ([(46, some 0), (45, some 1)], some (45, false)), ([(3, none), (45, some 2)], some (45, false)), ([(47, some 1), (48, some 0), (45, some 3)], some (45, false)), ([(45, some 4), (49, some 0), (40, some 9)], some (40, true)), ([(50, some 0), (40, some 10)], some (40, true)), ([(1, none), (51, some 0)], some (51, false)), ([(6, none), (51, some 1)], some (51, false)), ([(52, some 1), (53, some 0), (51, some 2)], some (51, false)), ([(3, none), (51, some 3)], some (51, false)), ([(5, none), (51, some 4)], some (51, false)), ([(55, some 1), (56, some 0), (51, some 5)], some (51, false)), ([(54, some 3), (57, some 0), (51, some 6)], some (51, false)), ([(51, some 7), (58, some 0), (40, some 18)], some (40, true)), ([(40, some 19), (59, some 0)], none)] [(0, 60)] (by kernel_rfl) (by kernel_rfl) ?_
                    refine ob_det (c := .agg #[.int .i64 (i : Nat), .int .i64 zp]) ?_ ?_
                    · intro ρ W hk hC
                      simp only [seen, obOp]
                      rintro h6
                      replace h6 : ρ (.tmp 6) = .pointer (some ⟨g6, 0, none⟩) := h6.trans rfl
                      exact rel_value (by simp [go_sem, h6, y0 W hC, y1 W hC]) hC
                    refine ob_det (c := .agg #[.int .i64 (-1), .int .i64 0]) ?_ ?_
                    · intro ρ W hk hC
                      simp only [seen, obOp]
                      exact rel_call (f := 31) (args := #[]) (by simp [go_sem, hk.func]) hC (rNone_any W)
                    refine ob_det (c := .bool true) ?_ ?_
                    · intro ρ W hk hC
                      simp only [seen, obOp, List.getD_cons_zero, List.getD_cons_succ]
                      rintro h37 h38
                      exact rel_value (by simp [go_sem, h37, h38, hqE]) hC
                    refine ob_det (c := .bool true) ?_ ?_
                    · intro ρ W hk hC
                      simp only [seen, obOp, List.getD_cons_zero]
                      rintro h39
                      exact rel_value (by simp [go_sem, h39]) hC
                    refine ob_det (c := .agg #[.slice (some ⟨b, off, none⟩) L.secs.length p0, .slice a1 L.sigs.length p1, .slice a2 L.exits.length p2, .slice a3 L.flanks.length p3, .int .i64 L.t0, .int .i64 L.t1, .int .i64 L.t2, .int .i64 L.t3, .int .i64 L.t4, .int .i64 L.t5, .int .i64 L.t6]) ?_ ?_
                    · intro ρ W hk hC
                      simp only [seen, obOp, List.getD_cons_zero]
                      rintro h1 h40
                      replace h1 : ρ (.tmp 1) = .pointer (some ⟨w.heap.size, 0, none⟩) := h1.trans rfl
                      refine ⟨fun _ => ?_, fun hn => absurd h40 hn⟩
                      exact rel_value (runLoad h1 (HBX.out.below hC)) hC
                    refine ob_det (c := .agg #[.int .i64 (i : Nat), .int .i64 zp]) ?_ ?_
                    · intro ρ W hk hC
                      simp only [seen, obOp, List.getD_cons_zero, List.getD_cons_succ]
                      rintro h6 h40
                      replace h6 : ρ (.tmp 6) = .pointer (some ⟨g6, 0, none⟩) := h6.trans rfl
                      refine ⟨fun _ => ?_, fun hn => absurd h40 hn⟩
                      exact rel_value (by simp [go_sem, h6, y0 W hC, y1 W hC]) hC
                    refine ob_det (c := .bool true) ?_ ?_
                    · intro ρ W hk hC
                      simp only [seen, obOp, List.getD_cons_zero, List.getD_cons_succ]
                      rintro h41 h42 h40
                      refine ⟨fun _ => ?_, fun hn => absurd h40 hn⟩
                      exact rel_call (f := 30) (args := #[.agg #[.slice (some ⟨b, off, none⟩) L.secs.length p0, .slice a1 L.sigs.length p1, .slice a2 L.exits.length p2, .slice a3 L.flanks.length p3, .int .i64 L.t0, .int .i64 L.t1, .int .i64 L.t2, .int .i64 L.t3, .int .i64 L.t4, .int .i64 L.t5, .int .i64 L.t6], .agg #[.int .i64 (i : Nat), .int .i64 zp]]) (by simp [go_sem, h41, h42, hk.func]) hC (HH.out W hC)
                    refine ob_det (c := .bool false) ?_ ?_
                    · intro ρ W hk hC
                      simp only [seen, obOp, List.getD_cons_zero, List.getD_cons_succ]
                      rintro h43 h40
                      refine ⟨fun _ => ?_, fun hn => absurd h40 hn⟩
                      exact rel_value (by simp [go_sem, h43]) hC
                    refine ob_det (c := .bool false) ?_ ?_
                    · intro ρ W hk hC
                      simp only [seen, obOp, List.getD_cons_zero, List.getD_cons_succ]
                      rintro h44 h40
                      refine ⟨fun _ => ?_, fun hn => absurd h40 hn⟩
                      exact rel_value (by simp [go_sem, h44]) hC
                    refine ob_det (c := .pointer (some ⟨g6, 0, none⟩)) ?_ ?_
                    · intro ρ W hk hC
                      simp only [seen, obOp, List.getD_cons_zero]
                      rintro h6 h45
                      replace h6 : ρ (.tmp 6) = .pointer (some ⟨g6, 0, none⟩) := h6.trans rfl
                      refine ⟨fun _ => ?_, fun hn => absurd h45 hn⟩
                      exact rel_value (by simp [go_sem, h6]) hC
                    refine ob_det (c := .int .i64 (i : Nat)) ?_ ?_
                    · intro ρ W hk hC
                      simp only [seen, obOp, List.getD_cons_zero, List.getD_cons_succ]
                      rintro h46 h45
                      refine ⟨fun _ => ?_, fun hn => absurd h45 hn⟩
                      exact rel_value (by simp [go_sem, h46, y0 W hC]) hC
                    refine ob_det (c := .int .i64 (i : Nat)) ?_ ?_
                    · intro ρ W hk hC
                      simp only [seen, obOp, List.getD_cons_zero, List.getD_cons_succ]
                      rintro h3 h45
                      replace h3 : ρ (.tmp 3) = .int .i64 (i : Nat) := h3.trans rfl
                      refine ⟨fun _ => ?_, fun hn => absurd h45 hn⟩
                      exact rel_value (by simp [go_sem, h3]) hC
                    refine ob_det (c := .bool true) ?_ ?_
                    · intro ρ W hk hC
                      simp only [seen, obOp, List.getD_cons_zero, List.getD_cons_succ]
                      rintro h47 h48 h45
                      refine ⟨fun _ => ?_, fun hn => absurd h45 hn⟩
                      exact rel_value (by simp [go_sem, h47, h48]) hC
                    refine ob_det (c := .bool true) ?_ ?_
                    · intro ρ W hk hC
                      simp only [seen, obOp, List.getD_cons_zero, List.getD_cons_succ]
                      rintro h45 h49 h40
                      refine ⟨fun _ => ?_, fun hn => absurd h40 hn⟩
                      exact rel_value (by simp [go_sem, h45, h49, hk.const]) hC
                    refine ob_det (c := .bool true) ?_ ?_
                    · intro ρ W hk hC
                      simp only [seen, obOp, List.getD_cons_zero, List.getD_cons_succ]
                      rintro h50 h40
                      refine ⟨fun _ => ?_, fun hn => absurd h40 hn⟩
                      exact rel_value (by simp [go_sem, h50]) hC
                    refine ob_det (c := undef) ?_ ?_
                    · intro ρ W hk hC
                      simp only [seen, obOp, List.getD_cons_zero]
                      rintro h1 h51
                      replace h1 : ρ (.tmp 1) = .pointer (some ⟨w.heap.size, 0, none⟩) := h1.trans rfl
                      exact ⟨fun h => absurd (h.symm.trans h51) (by first | simp | simp [undef]), fun _ => by trivial⟩
                    refine ob_det (c := undef) ?_ ?_
                    · intro ρ W hk hC
                      simp only [seen, obOp, List.getD_cons_zero, List.getD_cons_succ]
                      rintro h6 h51
                      replace h6 : ρ (.tmp 6) = .pointer (some ⟨g6, 0, none⟩) := h6.trans rfl
                      exact ⟨fun h => absurd (h.symm.trans h51) (by first | simp | simp [undef]), fun _ => by trivial⟩
                    refine ob_det (c := undef) ?_ ?_
                    · intro ρ W hk hC
                      simp only [seen, obOp, List.getD_cons_zero, List.getD_cons_succ]
                      rintro h52 h53 h51
                      exact ⟨fun h => absurd (h.symm.trans h51) (by first | simp | simp [undef]), fun _ => by trivial⟩
                    refine ob_det (c := undef) ?_ ?_
                    · intro ρ W hk hC
                      simp only [seen, obOp, List.getD_cons_zero, List.getD_cons_succ]
                      rintro h3 h51
                      replace h3 : ρ (.tmp 3) = .int .i64 (i : Nat) := h3.trans rfl
                      exact ⟨fun h => absurd (h.symm.trans h51) (by first | simp | simp [undef]), fun _ => by trivial⟩
                    refine ob_det (c := undef) ?_ ?_
                    · intro ρ W hk hC
                      simp only [seen, obOp, List.getD_cons_zero, List.getD_cons_succ]
                      rintro h5 h51
                      replace h5 : ρ (.tmp 5) = .int .i64 (j : Nat) := h5.trans rfl
                      exact ⟨fun h => absurd (h.symm.trans h51) (by first | simp | simp [undef]), fun _ => by trivial⟩
                    refine ob_det (c := undef) ?_ ?_
                    · intro ρ W hk hC
                      simp only [seen, obOp, List.getD_cons_zero, List.getD_cons_succ]
                      rintro h55 h56 h51
                      exact ⟨fun h => absurd (h.symm.trans h51) (by first | simp | simp [undef]), fun _ => by trivial⟩
                    refine ob_det (c := undef) ?_ ?_
                    · intro ρ W hk hC
                      simp only [seen, obOp, List.getD_cons_zero, List.getD_cons_succ]
                      rintro h54 h57 h51
                      exact ⟨fun h => absurd (h.symm.trans h51) (by first | simp | simp [undef]), fun _ => by trivial⟩
                    refine ob_det (c := .bool true) ?_ ?_
                    · intro ρ W hk hC
                      simp only [seen, obOp, List.getD_cons_zero, List.getD_cons_succ]
                      rintro h51 h58 h40
                      refine ⟨fun _ => ?_, fun hn => absurd h40 hn⟩
                      exact rel_value (by simp [go_sem, h51, h58, hk.const]) hC
                    refine ob_det (c := .bool true) ?_ ?_
                    · intro ρ W hk hC
                      simp only [seen, obOp, List.getD_cons_zero, List.getD_cons_succ]
                      rintro h40 h59
                      exact rel_value (by simp [go_sem, h40, h59, hk.const]) hC
                    intro vs w5 hC5
                    simp only [endSeen, List.getD_cons_zero]
                    intro h60
                    simp only [writeAll, List.setIfInBounds_toArray, List.set_cons_zero, List.set_cons_succ, h60]
                    have HB5 := Lib.hid (bchain HXI.out (bchain HBU.out hC5))
                    clear hC5
                    go_wp2
                    go_ret
                    obtain rfl : r = false := HR.out.2.1 i hlt (by
                      rw [HSF.out, List.all_eq_false]
                      exact ⟨j, mem_pj.2 ⟨hj4, HHB.out⟩, by rw [HJB.out]; simp⟩)
                    exact ⟨rfl, bchain HX.out.1 HB5.out⟩
                rw [decide_eq_false hsi, Bool.not_false, Bool.true_and] at hjb
                generalize beyL L zs zp = y at HY0 hjb
                obtain ⟨ys, yp⟩ := y
                dsimp only at HY0 hjb
                have HY := Lib.hid HY0
                clear HH0 HY0 hh
                by_cases hP : ys = (i : Nat) ∧ yp = (j : Nat)
                · have hqP : ∀ V', (Op.equalIn 10000 37 (.agg #[.int .i64 ys, .int .i64 yp]) (.agg #[.int .i64 (i : Nat), .int .i64 (j : Nat)])).run Tryd.prog V' = .ok true V' := fun V' => by rw [eqQ_portI, decide_eq_true hP]
                  have HJB := Lib.hid (show joinB L (i : Nat) j = true by rw [hjb]; obtain ⟨rfl, rfl⟩ := hP; simp)
                  clear hP hjb
                  focus
                    refine wp_region_rel_below [([(6, none)], none), ([], none), ([(37, some 1), (38, some 0)], none), ([(39, some 0)], none), ([(1, none), (40, some 0)], some (40, true)), ([(6, none), (40, some 1)], some (40, true)), ([(41, some 1), (42, some 0), (40, some 2)], some (40, true)), ([(43, some 0), (40, some 3)], some (40, true)), ([(44, some 0), (40, some 4)], some (40, true)), ([(6, none), (45, some 0)], some (45, false)), ([(46, some 0), (45, some 1)], some (45, false)), ([(3, none), (45, some 2)], some (45, false)), ([(47, some 1), (48, some 0), (45, some 3)], some (45, false)), ([(45, some 4), (49, some 0), (40, some 9)], some (40, true)), ([(50, some 0), (40, some 10)], some (40, true)), ([(1, none), (51, some 0)], some (51, false)), ([(6, none), (51, some 1)], some (51, false)), ([(52, some 1), (53, some 0), (51, some 2)], some (51, false)), ([(3, none), (51, some 3)], some (51, false)), ([(5, none), (51, some 4)], some (51, false)), ([(55, some 1), (56, some 0), (51, some 5)], some (51, false)), ([(54, some 3), (57, some 0), (51, some 6)], some (51, false)), ([(51, some 7), (58, some 0), (40, some 18)], some (40, true)), ([(40, some 19), (59, some 0)], none)] [(0, 60)] (by kernel_rfl) (by kernel_rfl) ?_
                    refine ob_det (c := .agg #[.int .i64 zs, .int .i64 zp]) ?_ ?_
                    · intro ρ W hk hC
                      simp only [seen, obOp]
                      rintro h6
                      replace h6 : ρ (.tmp 6) = .pointer (some ⟨g6, 0, none⟩) := h6.trans rfl
                      exact rel_value (by simp [go_sem, h6, y0 W hC, y1 W hC]) hC
                    refine ob_det (c := .agg #[.int .i64 (-1), .int .i64 0]) ?_ ?_
                    · intro ρ W hk hC
                      simp only [seen, obOp]
                      exact rel_call (f := 31) (args := #[]) (by simp [go_sem, hk.func]) hC (rNone_any W)
                    refine ob_det (c := .bool true) ?_ ?_
                    · intro ρ W hk hC
                      simp only [seen, obOp, List.getD_cons_zero, List.getD_cons_succ]
                      rintro h37 h38
                      exact rel_value (by simp [go_sem, h37, h38, hqE]) hC
                    refine ob_det (c := .bool true) ?_ ?_
                    · intro ρ W hk hC
                      simp only [seen, obOp, List.getD_cons_zero]
                      rintro h39
                      exact rel_value (by simp [go_sem, h39]) hC
                    refine ob_det (c := .agg #[.slice (some ⟨b, off, none⟩) L.secs.length p0, .slice a1 L.sigs.length p1, .slice a2 L.exits.length p2, .slice a3 L.flanks.length p3, .int .i64 L.t0, .int .i64 L.t1, .int .i64 L.t2, .int .i64 L.t3, .int .i64 L.t4, .int .i64 L.t5, .int .i64 L.t6]) ?_ ?_
                    · intro ρ W hk hC
                      simp only [seen, obOp, List.getD_cons_zero]
                      rintro h1 h40
                      replace h1 : ρ (.tmp 1) = .pointer (some ⟨w.heap.size, 0, none⟩) := h1.trans rfl
                      refine ⟨fun _ => ?_, fun hn => absurd h40 hn⟩
                      exact rel_value (runLoad h1 (HBX.out.below hC)) hC
                    refine ob_det (c := .agg #[.int .i64 zs, .int .i64 zp]) ?_ ?_
                    · intro ρ W hk hC
                      simp only [seen, obOp, List.getD_cons_zero, List.getD_cons_succ]
                      rintro h6 h40
                      replace h6 : ρ (.tmp 6) = .pointer (some ⟨g6, 0, none⟩) := h6.trans rfl
                      refine ⟨fun _ => ?_, fun hn => absurd h40 hn⟩
                      exact rel_value (by simp [go_sem, h6, y0 W hC, y1 W hC]) hC
                    refine ob_det (c := .bool true) ?_ ?_
                    · intro ρ W hk hC
                      simp only [seen, obOp, List.getD_cons_zero, List.getD_cons_succ]
                      rintro h41 h42 h40
                      refine ⟨fun _ => ?_, fun hn => absurd h40 hn⟩
                      exact rel_call (f := 30) (args := #[.agg #[.slice (some ⟨b, off, none⟩) L.secs.length p0, .slice a1 L.sigs.length p1, .slice a2 L.exits.length p2, .slice a3 L.flanks.length p3, .int .i64 L.t0, .int .i64 L.t1, .int .i64 L.t2, .int .i64 L.t3, .int .i64 L.t4, .int .i64 L.t5, .int .i64 L.t6], .agg #[.int .i64 zs, .int .i64 zp]]) (by simp [go_sem, h41, h42, hk.func]) hC (HH.out W hC)
                    refine ob_det (c := .bool false) ?_ ?_
                    · intro ρ W hk hC
                      simp only [seen, obOp, List.getD_cons_zero, List.getD_cons_succ]
                      rintro h43 h40
                      refine ⟨fun _ => ?_, fun hn => absurd h40 hn⟩
                      exact rel_value (by simp [go_sem, h43]) hC
                    refine ob_det (c := .bool false) ?_ ?_
                    · intro ρ W hk hC
                      simp only [seen, obOp, List.getD_cons_zero, List.getD_cons_succ]
                      rintro h44 h40
                      refine ⟨fun _ => ?_, fun hn => absurd h40 hn⟩
                      exact rel_value (by simp [go_sem, h44]) hC
                    refine ob_det (c := .pointer (some ⟨g6, 0, none⟩)) ?_ ?_
                    · intro ρ W hk hC
                      simp only [seen, obOp, List.getD_cons_zero]
                      rintro h6 h45
                      replace h6 : ρ (.tmp 6) = .pointer (some ⟨g6, 0, none⟩) := h6.trans rfl
                      refine ⟨fun _ => ?_, fun hn => absurd h45 hn⟩
                      exact rel_value (by simp [go_sem, h6]) hC
                    refine ob_det (c := .int .i64 zs) ?_ ?_
                    · intro ρ W hk hC
                      simp only [seen, obOp, List.getD_cons_zero, List.getD_cons_succ]
                      rintro h46 h45
                      refine ⟨fun _ => ?_, fun hn => absurd h45 hn⟩
                      exact rel_value (by simp [go_sem, h46, y0 W hC]) hC
                    refine ob_det (c := .int .i64 (i : Nat)) ?_ ?_
                    · intro ρ W hk hC
                      simp only [seen, obOp, List.getD_cons_zero, List.getD_cons_succ]
                      rintro h3 h45
                      replace h3 : ρ (.tmp 3) = .int .i64 (i : Nat) := h3.trans rfl
                      refine ⟨fun _ => ?_, fun hn => absurd h45 hn⟩
                      exact rel_value (by simp [go_sem, h3]) hC
                    refine ob_det (c := .bool false) ?_ ?_
                    · intro ρ W hk hC
                      simp only [seen, obOp, List.getD_cons_zero, List.getD_cons_succ]
                      rintro h47 h48 h45
                      refine ⟨fun _ => ?_, fun hn => absurd h45 hn⟩
                      exact rel_value (by simp [go_sem, h47, h48, hsi]) hC
                    refine ob_det (c := .bool false) ?_ ?_
                    · intro ρ W hk hC
                      simp only [seen, obOp, List.getD_cons_zero, List.getD_cons_succ]
                      rintro h45 h49 h40
                      refine ⟨fun _ => ?_, fun hn => absurd h40 hn⟩
                      exact rel_value (by simp [go_sem, h45, h49, hk.const]) hC
                    refine ob_det (c := .bool false) ?_ ?_
                    · intro ρ W hk hC
                      simp only [seen, obOp, List.getD_cons_zero, List.getD_cons_succ]
                      rintro h50 h40
                      refine ⟨fun _ => ?_, fun hn => absurd h40 hn⟩
                      exact rel_value (by simp [go_sem, h50]) hC
                    refine ob_det (c := .agg #[.slice (some ⟨b, off, none⟩) L.secs.length p0, .slice a1 L.sigs.length p1, .slice a2 L.exits.length p2, .slice a3 L.flanks.length p3, .int .i64 L.t0, .int .i64 L.t1, .int .i64 L.t2, .int .i64 L.t3, .int .i64 L.t4, .int .i64 L.t5, .int .i64 L.t6]) ?_ ?_
                    · intro ρ W hk hC
                      simp only [seen, obOp, List.getD_cons_zero]
                      rintro h1 h51
                      replace h1 : ρ (.tmp 1) = .pointer (some ⟨w.heap.size, 0, none⟩) := h1.trans rfl
                      refine ⟨fun _ => ?_, fun hn => absurd h51 hn⟩
                      exact rel_value (runLoad h1 (HBX.out.below hC)) hC
                    refine ob_det (c := .agg #[.int .i64 zs, .int .i64 zp]) ?_ ?_
                    · intro ρ W hk hC
                      simp only [seen, obOp, List.getD_cons_zero, List.getD_cons_succ]
                      rintro h6 h51
                      replace h6 : ρ (.tmp 6) = .pointer (some ⟨g6, 0, none⟩) := h6.trans rfl
                      refine ⟨fun _ => ?_, fun hn => absurd h51 hn⟩
                      exact rel_value (by simp [go_sem, h6, y0 W hC, y1 W hC]) hC
                    refine ob_det (c := .agg #[.int .i64 ys, .int .i64 yp]) ?_ ?_
                    · intro ρ W hk hC
                      simp only [seen, obOp, List.getD_cons_zero, List.getD_cons_succ]
                      rintro h52 h53 h51
                      refine ⟨fun _ => ?_, fun hn => absurd h51 hn⟩
                      exact rel_call (f := 17) (args := #[.agg #[.slice (some ⟨b, off, none⟩) L.secs.length p0, .slice a1 L.sigs.length p1, .slice a2 L.exits.length p2, .slice a3 L.flanks.length p3, .int .i64 L.t0, .int .i64 L.t1, .int .i64 L.t2, .int .i64 L.t3, .int .i64 L.t4, .int .i64 L.t5, .int .i64 L.t6], .agg #[.int .i64 zs, .int .i64 zp]]) (by simp [go_sem, h52, h53, hk.func]) hC (HY.out W hC)
                    refine ob_det (c := .int .i64 (i : Nat)) ?_ ?_
                    · intro ρ W hk hC
                      simp only [seen, obOp, List.getD_cons_zero, List.getD_cons_succ]
                      rintro h3 h51
                      replace h3 : ρ (.tmp 3) = .int .i64 (i : Nat) := h3.trans rfl
                      refine ⟨fun _ => ?_, fun hn => absurd h51 hn⟩
                      exact rel_value (by simp [go_sem, h3]) hC
                    refine ob_det (c := .int .i64 (j : Nat)) ?_ ?_
                    · intro ρ W hk hC
                      simp only [seen, obOp, List.getD_cons_zero, List.getD_cons_succ]
                      rintro h5 h51
                      replace h5 : ρ (.tmp 5) = .int .i64 (j : Nat) := h5.trans rfl
                      refine ⟨fun _ => ?_, fun hn => absurd h51 hn⟩
                      exact rel_value (by simp [go_sem, h5]) hC
                    refine ob_det (c := .agg #[.int .i64 (i : Nat), .int .i64 (j : Nat)]) ?_ ?_
                    · intro ρ W hk hC
                      simp only [seen, obOp, List.getD_cons_zero, List.getD_cons_succ]
                      rintro h55 h56 h51
                      refine ⟨fun _ => ?_, fun hn => absurd h51 hn⟩
                      exact rel_value (by simp [go_sem, h55, h56]) hC
                    refine ob_det (c := .bool false) ?_ ?_
                    · intro ρ W hk hC
                      simp only [seen, obOp, List.getD_cons_zero, List.getD_cons_succ]
                      rintro h54 h57 h51
                      refine ⟨fun _ => ?_, fun hn => absurd h51 hn⟩
                      exact rel_value (by simp [go_sem, h54, h57, hqP]) hC
                    refine ob_det (c := .bool false) ?_ ?_
                    · intro ρ W hk hC
                      simp only [seen, obOp, List.getD_cons_zero, List.getD_cons_succ]
                      rintro h51 h58 h40
                      refine ⟨fun _ => ?_, fun hn => absurd h40 hn⟩
                      exact rel_value (by simp [go_sem, h51, h58, hk.const]) hC
                    refine ob_det (c := .bool false) ?_ ?_
                    · intro ρ W hk hC
                      simp only [seen, obOp, List.getD_cons_zero, List.getD_cons_succ]
                      rintro h40 h59
                      exact rel_value (by simp [go_sem, h40, h59, hk.const]) hC
                    intro vs w5 hC5
                    simp only [endSeen, List.getD_cons_zero]
                    intro h60
                    simp only [writeAll, List.setIfInBounds_toArray, List.set_cons_zero, List.set_cons_succ, h60]
                    have HB5 := Lib.hid (bchain HBU.out hC5)
                    clear hC5
                    go_wp2
                    go_roundw
                    case rel => exact ⟨j + 1, by omega, by go_num, HB5, Lib.hid (fun t ht => by
                      by_cases e : t = j
                      · subst e; exact HJB.out
                      · exact HN.out t (by omega))⟩
                    case measure => simp [intOf]; omega
                · have hqP : ∀ V', (Op.equalIn 10000 37 (.agg #[.int .i64 ys, .int .i64 yp]) (.agg #[.int .i64 (i : Nat), .int .i64 (j : Nat)])).run Tryd.prog V' = .ok false V' := fun V' => by rw [eqQ_portI, decide_eq_false hP]
                  have HJB := Lib.hid (show joinB L (i : Nat) j = false by rw [hjb]; exact decide_eq_false (fun h => hP (by cases h; exact ⟨rfl, rfl⟩)))
                  clear hP hjb
                  focus
                    refine wp_region_rel_below [([(6, none)], none), ([], none), ([(37, some 1), (38, some 0)], none), ([(39, some 0)], none), ([(1, none), (40, some 0)], some (40, true)), ([(6, none), (40, some 1)], some (40, true)), ([(41, some 1), (42, some 0), (40, some 2)], some (40, true)), ([(43, some 0), (40, some 3)], some (40, true)), ([(44, some 0), (40, some 4)], some (40, true)), ([(6, none), (45, some 0)], some (45, false)), ([(46, some 0), (45, some 1)], some (45, false)), ([(3, none), (45, some 2)], some (45, false)), ([(47, some 1), (48, some 0), (45, some 3)], some (45, false)), ([(45, some 4), (49, some 0), (40, some 9)], some (40, true)), ([(50, some 0), (40, some 10)], some (40, true)), ([(1, none), (51, some 0)], some (51, false)), ([(6, none), (51, some 1)], some (51, false)), ([(52, some 1), (53, some 0), (51, some 2)], some (51, false)), ([(3, none), (51, some 3)], some (51, false)), ([(5, none), (51, some 4)], some (51, false)), ([(55, some 1), (56, some 0), (51, some 5)], some (51, false)), ([(54, some 3), (57, some 0), (51, some 6)], some (51, false)), ([(51, some 7), (58, some 0), (40, some 18)], some (40, true)), ([(40, some 19), (59, some 0)], none)] [(0, 60)] (by kernel_rfl) (by kernel_rfl) ?_
                    refine ob_det (c := .agg #[.int .i64 zs, .int .i64 zp]) ?_ ?_
                    · intro ρ W hk hC
                      simp only [seen, obOp]
                      rintro h6
                      replace h6 : ρ (.tmp 6) = .pointer (some ⟨g6, 0, none⟩) := h6.trans rfl
                      exact rel_value (by simp [go_sem, h6, y0 W hC, y1 W hC]) hC
                    refine ob_det (c := .agg #[.int .i64 (-1), .int .i64 0]) ?_ ?_
                    · intro ρ W hk hC
                      simp only [seen, obOp]
                      exact rel_call (f := 31) (args := #[]) (by simp [go_sem, hk.func]) hC (rNone_any W)
                    refine ob_det (c := .bool true) ?_ ?_
                    · intro ρ W hk hC
                      simp only [seen, obOp, List.getD_cons_zero, List.getD_cons_succ]
                      rintro h37 h38
                      exact rel_value (by simp [go_sem, h37, h38, hqE]) hC
                    refine ob_det (c := .bool true) ?_ ?_
                    · intro ρ W hk hC
                      simp only [seen, obOp, List.getD_cons_zero]
                      rintro h39
                      exact rel_value (by simp [go_sem, h39]) hC
                    refine ob_det (c := .agg #[.slice (some ⟨b, off, none⟩) L.secs.length p0, .slice a1 L.sigs.length p1, .slice a2 L.exits.length p2, .slice a3 L.flanks.length p3, .int .i64 L.t0, .int .i64 L.t1, .int .i64 L.t2, .int .i64 L.t3, .int .i64 L.t4, .int .i64 L.t5, .int .i64 L.t6]) ?_ ?_
                    · intro ρ W hk hC
                      simp only [seen, obOp, List.getD_cons_zero]
                      rintro h1 h40
                      replace h1 : ρ (.tmp 1) = .pointer (some ⟨w.heap.size, 0, none⟩) := h1.trans rfl
                      refine ⟨fun _ => ?_, fun hn => absurd h40 hn⟩
                      exact rel_value (runLoad h1 (HBX.out.below hC)) hC
                    refine ob_det (c := .agg #[.int .i64 zs, .int .i64 zp]) ?_ ?_
                    · intro ρ W hk hC
                      simp only [seen, obOp, List.getD_cons_zero, List.getD_cons_succ]
                      rintro h6 h40
                      replace h6 : ρ (.tmp 6) = .pointer (some ⟨g6, 0, none⟩) := h6.trans rfl
                      refine ⟨fun _ => ?_, fun hn => absurd h40 hn⟩
                      exact rel_value (by simp [go_sem, h6, y0 W hC, y1 W hC]) hC
                    refine ob_det (c := .bool true) ?_ ?_
                    · intro ρ W hk hC
                      simp only [seen, obOp, List.getD_cons_zero, List.getD_cons_succ]
                      rintro h41 h42 h40
                      refine ⟨fun _ => ?_, fun hn => absurd h40 hn⟩
                      exact rel_call (f := 30) (args := #[.agg #[.slice (some ⟨b, off, none⟩) L.secs.length p0, .slice a1 L.sigs.length p1, .slice a2 L.exits.length p2, .slice a3 L.flanks.length p3, .int .i64 L.t0, .int .i64 L.t1, .int .i64 L.t2, .int .i64 L.t3, .int .i64 L.t4, .int .i64 L.t5, .int .i64 L.t6], .agg #[.int .i64 zs, .int .i64 zp]]) (by simp [go_sem, h41, h42, hk.func]) hC (HH.out W hC)
                    refine ob_det (c := .bool false) ?_ ?_
                    · intro ρ W hk hC
                      simp only [seen, obOp, List.getD_cons_zero, List.getD_cons_succ]
                      rintro h43 h40
                      refine ⟨fun _ => ?_, fun hn => absurd h40 hn⟩
                      exact rel_value (by simp [go_sem, h43]) hC
                    refine ob_det (c := .bool false) ?_ ?_
                    · intro ρ W hk hC
                      simp only [seen, obOp, List.getD_cons_zero, List.getD_cons_succ]
                      rintro h44 h40
                      refine ⟨fun _ => ?_, fun hn => absurd h40 hn⟩
                      exact rel_value (by simp [go_sem, h44]) hC
                    refine ob_det (c := .pointer (some ⟨g6, 0, none⟩)) ?_ ?_
                    · intro ρ W hk hC
                      simp only [seen, obOp, List.getD_cons_zero]
                      rintro h6 h45
                      replace h6 : ρ (.tmp 6) = .pointer (some ⟨g6, 0, none⟩) := h6.trans rfl
                      refine ⟨fun _ => ?_, fun hn => absurd h45 hn⟩
                      exact rel_value (by simp [go_sem, h6]) hC
                    refine ob_det (c := .int .i64 zs) ?_ ?_
                    · intro ρ W hk hC
                      simp only [seen, obOp, List.getD_cons_zero, List.getD_cons_succ]
                      rintro h46 h45
                      refine ⟨fun _ => ?_, fun hn => absurd h45 hn⟩
                      exact rel_value (by simp [go_sem, h46, y0 W hC]) hC
                    refine ob_det (c := .int .i64 (i : Nat)) ?_ ?_
                    · intro ρ W hk hC
                      simp only [seen, obOp, List.getD_cons_zero, List.getD_cons_succ]
                      rintro h3 h45
                      replace h3 : ρ (.tmp 3) = .int .i64 (i : Nat) := h3.trans rfl
                      refine ⟨fun _ => ?_, fun hn => absurd h45 hn⟩
                      exact rel_value (by simp [go_sem, h3]) hC
                    refine ob_det (c := .bool false) ?_ ?_
                    · intro ρ W hk hC
                      simp only [seen, obOp, List.getD_cons_zero, List.getD_cons_succ]
                      rintro h47 h48 h45
                      refine ⟨fun _ => ?_, fun hn => absurd h45 hn⟩
                      exact rel_value (by simp [go_sem, h47, h48, hsi]) hC
                    refine ob_det (c := .bool false) ?_ ?_
                    · intro ρ W hk hC
                      simp only [seen, obOp, List.getD_cons_zero, List.getD_cons_succ]
                      rintro h45 h49 h40
                      refine ⟨fun _ => ?_, fun hn => absurd h40 hn⟩
                      exact rel_value (by simp [go_sem, h45, h49, hk.const]) hC
                    refine ob_det (c := .bool false) ?_ ?_
                    · intro ρ W hk hC
                      simp only [seen, obOp, List.getD_cons_zero, List.getD_cons_succ]
                      rintro h50 h40
                      refine ⟨fun _ => ?_, fun hn => absurd h40 hn⟩
                      exact rel_value (by simp [go_sem, h50]) hC
                    refine ob_det (c := .agg #[.slice (some ⟨b, off, none⟩) L.secs.length p0, .slice a1 L.sigs.length p1, .slice a2 L.exits.length p2, .slice a3 L.flanks.length p3, .int .i64 L.t0, .int .i64 L.t1, .int .i64 L.t2, .int .i64 L.t3, .int .i64 L.t4, .int .i64 L.t5, .int .i64 L.t6]) ?_ ?_
                    · intro ρ W hk hC
                      simp only [seen, obOp, List.getD_cons_zero]
                      rintro h1 h51
                      replace h1 : ρ (.tmp 1) = .pointer (some ⟨w.heap.size, 0, none⟩) := h1.trans rfl
                      refine ⟨fun _ => ?_, fun hn => absurd h51 hn⟩
                      exact rel_value (runLoad h1 (HBX.out.below hC)) hC
                    refine ob_det (c := .agg #[.int .i64 zs, .int .i64 zp]) ?_ ?_
                    · intro ρ W hk hC
                      simp only [seen, obOp, List.getD_cons_zero, List.getD_cons_succ]
                      rintro h6 h51
                      replace h6 : ρ (.tmp 6) = .pointer (some ⟨g6, 0, none⟩) := h6.trans rfl
                      refine ⟨fun _ => ?_, fun hn => absurd h51 hn⟩
                      exact rel_value (by simp [go_sem, h6, y0 W hC, y1 W hC]) hC
                    refine ob_det (c := .agg #[.int .i64 ys, .int .i64 yp]) ?_ ?_
                    · intro ρ W hk hC
                      simp only [seen, obOp, List.getD_cons_zero, List.getD_cons_succ]
                      rintro h52 h53 h51
                      refine ⟨fun _ => ?_, fun hn => absurd h51 hn⟩
                      exact rel_call (f := 17) (args := #[.agg #[.slice (some ⟨b, off, none⟩) L.secs.length p0, .slice a1 L.sigs.length p1, .slice a2 L.exits.length p2, .slice a3 L.flanks.length p3, .int .i64 L.t0, .int .i64 L.t1, .int .i64 L.t2, .int .i64 L.t3, .int .i64 L.t4, .int .i64 L.t5, .int .i64 L.t6], .agg #[.int .i64 zs, .int .i64 zp]]) (by simp [go_sem, h52, h53, hk.func]) hC (HY.out W hC)
                    refine ob_det (c := .int .i64 (i : Nat)) ?_ ?_
                    · intro ρ W hk hC
                      simp only [seen, obOp, List.getD_cons_zero, List.getD_cons_succ]
                      rintro h3 h51
                      replace h3 : ρ (.tmp 3) = .int .i64 (i : Nat) := h3.trans rfl
                      refine ⟨fun _ => ?_, fun hn => absurd h51 hn⟩
                      exact rel_value (by simp [go_sem, h3]) hC
                    refine ob_det (c := .int .i64 (j : Nat)) ?_ ?_
                    · intro ρ W hk hC
                      simp only [seen, obOp, List.getD_cons_zero, List.getD_cons_succ]
                      rintro h5 h51
                      replace h5 : ρ (.tmp 5) = .int .i64 (j : Nat) := h5.trans rfl
                      refine ⟨fun _ => ?_, fun hn => absurd h51 hn⟩
                      exact rel_value (by simp [go_sem, h5]) hC
                    refine ob_det (c := .agg #[.int .i64 (i : Nat), .int .i64 (j : Nat)]) ?_ ?_
                    · intro ρ W hk hC
                      simp only [seen, obOp, List.getD_cons_zero, List.getD_cons_succ]
                      rintro h55 h56 h51
                      refine ⟨fun _ => ?_, fun hn => absurd h51 hn⟩
                      exact rel_value (by simp [go_sem, h55, h56]) hC
                    refine ob_det (c := .bool true) ?_ ?_
                    · intro ρ W hk hC
                      simp only [seen, obOp, List.getD_cons_zero, List.getD_cons_succ]
                      rintro h54 h57 h51
                      refine ⟨fun _ => ?_, fun hn => absurd h51 hn⟩
                      exact rel_value (by simp [go_sem, h54, h57, hqP]) hC
                    refine ob_det (c := .bool true) ?_ ?_
                    · intro ρ W hk hC
                      simp only [seen, obOp, List.getD_cons_zero, List.getD_cons_succ]
                      rintro h51 h58 h40
                      refine ⟨fun _ => ?_, fun hn => absurd h40 hn⟩
                      exact rel_value (by simp [go_sem, h51, h58, hk.const]) hC
                    refine ob_det (c := .bool true) ?_ ?_
                    · intro ρ W hk hC
                      simp only [seen, obOp, List.getD_cons_zero, List.getD_cons_succ]
                      rintro h40 h59
                      exact rel_value (by simp [go_sem, h40, h59, hk.const]) hC
                    intro vs w5 hC5
                    simp only [endSeen, List.getD_cons_zero]
                    intro h60
                    simp only [writeAll, List.setIfInBounds_toArray, List.set_cons_zero, List.set_cons_succ, h60]
                    have HB5 := Lib.hid (bchain HXI.out (bchain HBU.out hC5))
                    clear hC5
                    go_wp2
                    go_ret
                    obtain rfl : r = false := HR.out.2.1 i hlt (by
                      rw [HSF.out, List.all_eq_false]
                      exact ⟨j, mem_pj.2 ⟨hj4, HHB.out⟩, by rw [HJB.out]; simp⟩)
                    exact ⟨rfl, bchain HX.out.1 HB5.out⟩
            · obtain rfl : j = m := by omega
              go_wp2_with fail
              (with_reducible refine (HPT.out _).mono ?_)
              rintro e w3 ⟨rfl, b3⟩
              have HB3 := Lib.hid (bchain HXI.out (bchain HBi.out b3))
              clear b3
              go_wp2
              go_roundw
              case rel => exact ⟨i + 1, by omega, by omega, by go_num, HB3, Lib.hid (fun t ht => by
                by_cases e : t = i
                · subst e
                  rw [HSF.out, List.all_eq_true]
                  exact fun s hs => HN.out s (HPO.out.2 s (mem_pj.1 hs).1 (mem_pj.1 hs).2)
                · exact HJ.out t (by omega))⟩
              case measure => simp [intOf]; omega
      · obtain rfl : i = 24 := by omega
        have d24 : decide (((24 : Nat) : Int) < 24) = false := by decide
        obtain rfl : r = false := HR.out.1 (by omega)
        have d25 : decide ((L.secs.length : Int) ≤ 24) = false := decide_eq_false (by omega)
        go_wp2
        all_goals first | (exfalso; omega) | (go_ret; exact ⟨rfl, bchain HX.out.1 HBr.out⟩)
    · obtain rfl : i = L.secs.length := by omega
      obtain rfl : r = true := HR.out.2.2 hi24 HJ.out
      have d25 : decide ((L.secs.length : Int) ≤ 24) = true := decide_eq_true (by omega)
      go_wp2
      go_ret
      exact ⟨rfl, bchain HX.out.1 HBr.out⟩
end Go.Proofs.YtmnkgnoljllnnaaDoor

/-
  lockbarref06.section, times.
-/
namespace Go.Proofs.YtmnkgnoljllnnaaDoor
open Go.RowKit Go.Shelf

def jokT (L : Lay) (c : Sec) (i : Nat) : Bool := decide (c.S i < 0) || hasB L (c.S i) (c.P i)
def secR (L : Lay) (c : Sec) : Bool := jokT L c 0 && jokT L c 1 && jokT L c 2 && jokT L c 3 && rightT c
theorem secR_facts (L : Lay) (c : Sec) : (∀ i, i < 4 → jokT L c i = false → secR L c = false) ∧ ((∀ i, i < 4 → jokT L c i = true) → secR L c = rightT c) := by
  unfold secR
  refine ⟨fun i hi h => ?_, fun h => ?_⟩
  · obtain rfl | rfl | rfl | rfl : i = 0 ∨ i = 1 ∨ i = 2 ∨ i = 3 := by omega
    all_goals simp [h]
  · rw [h 0 (by omega), h 1 (by omega), h 2 (by omega), h 3 (by omega)]
    simp

set_option maxRecDepth 100000 in
set_option maxHeartbeats 8000000 in
theorem rSection_any (L : Lay) (p : Where) (c : Sec) (w : World) (hL : LayAt w p L) :
    Calls Tryd.prog 32 #[L.val p, .agg c.enc.toArray] w fun e w' => e = .returned (.bool (secR L c)) ∧ Below w.heap.size w w' := by
  have hr := secR_facts L c
  generalize secR L c = r at hr ⊢
  have ht := fun (s q : Int) w1 (b : Below w.heap.size w w1) => rThere_any L p s q w1 (hL.below b)
  have h5 := fun w1 => rRight5_any c w1
  have hjt : ∀ i, jokT L c i = (decide (c.S i < 0) || hasB L (c.S i) (c.P i)) := fun _ => rfl
  have HR := Lib.hid hr
  have HT := Lib.hid ht
  have H5 := Lib.hid h5
  have HJT := Lib.hid hjt
  have hX := (BoxL.make (W := w) (L := L) (p := p) (n := w.heap.size) 29 rfl).below (bself (o := .cells c.enc.toArray 48))
  have hS := BoxS.make (w.alloc (.cells (L.cells p).toArray 29)) c
  rw [World.size_alloc] at hS
  clear hr ht h5 hjt hL
  unfold Sec.enc at *
  unfold Lay.val at *
  go_enter Tryd.func32, Tryd.ntmps32
  go_wp2_with fail
  obtain ⟨Y, hY⟩ : ∃ Y, Y = (w.alloc (.cells (L.cells p).toArray 29)).alloc (.cells #[.int .u8 c.k, .int .i64 c.s0, .int .i64 c.p0, .int .i64 c.s1, .int .i64 c.p1, .int .i64 c.s2, .int .i64 c.p2, .int .i64 c.s3, .int .i64 c.p3, .int .i64 c.c0, .int .i64 c.c1] 48) := ⟨_, rfl⟩
  have HB : Hid (Below w.heap.size w Y) := Lib.hid (by rw [hY]; exact bchain bself bself)
  have HX : Hid (BoxL Y w.heap.size L p) := Lib.hid (by rw [hY]; exact hX)
  have HS : Hid (BoxS Y (w.heap.size + 1) c) := Lib.hid (by rw [hY]; exact hS)
  have hY' : (w.alloc (.cells #[.slice p.a0 L.secs.length p.c0, .slice p.a1 L.sigs.length p.c1, .slice p.a2 L.exits.length p.c2, .slice p.a3 L.flanks.length p.c3, .int .i64 L.t0, .int .i64 L.t1, .int .i64 L.t2, .int .i64 L.t3, .int .i64 L.t4, .int .i64 L.t5, .int .i64 L.t6] 29)).alloc (.cells #[.int .u8 c.k, .int .i64 c.s0, .int .i64 c.p0, .int .i64 c.s1, .int .i64 c.p1, .int .i64 c.s2, .int .i64 c.p2, .int .i64 c.s3, .int .i64 c.p3, .int .i64 c.c0, .int .i64 c.c1] 48) = Y := hY.symm
  rw [hY']
  clear hY hY' hX hS
  go_loopw [5] (fun x5 wr => ∃ n : Nat, n ≤ 4 ∧ x5 = .int .i64 n ∧ Hid (∀ j, j < n → jokT L c j = true) ∧ Hid (Below Y.heap.size Y wr)) (fun x5 _ => 4 - (intOf x5).toNat)
  case atStart => exact ⟨0, by omega, rfl, Lib.hid (fun j hj => absurd hj (Nat.not_lt_zero _)), Lib.hid (Below.refl _ _)⟩
  case round =>
    obtain ⟨n, hn, rfl, HJ, HBr⟩ := hrel
    obtain ⟨V, rfl⟩ : ∃ V : World, V = wr := ⟨_, rfl⟩
    have xS := HS.out.below HBr.out
    have xL := HX.out.below HBr.out
    have lg := xS.1
    have lw := xL.1
    by_cases hn4 : n < 4
    · obtain ⟨cS, cP⟩ := xS.ports n hn4
      obtain ⟨r0, r1, r2, r3, r4, r5, r6, r7, r8, r9, r10⟩ := xL.cells
      have hjn := HJT.out n
      have hrf := HR.out.1 n hn4
      generalize c.S n = sn at cS cP hjn
      generalize c.P n = pn at cP hjn
      have hm := HT.out sn pn
      obtain ⟨jt, hjte⟩ : ∃ jt, jt = jokT L c n := ⟨_, rfl⟩
      rw [← hjte] at hjn hrf
      have next : jt = true → Hid (∀ j, j < n + 1 → jokT L c j = true) := fun h => Lib.hid fun j hj => by
        by_cases e : j = n
        · subst e; rw [← hjte]; exact h
        · exact HJ.out j (by omega)
      have NX := Lib.hid next
      clear hjte xS xL next
      have hn3 : (n : Int) < 4 := by omega
      have BV := Lib.hid (bchain HB.out HBr.out)
      by_cases h0 : 0 ≤ sn
      · have d0 : decide (0 ≤ sn) = true := decide_eq_true h0
        rw [show decide (sn < 0) = false from decide_eq_false (by omega), Bool.false_or] at hjn
        rw [← hjn] at hm
        have HM := Lib.hid hm
        clear hm hjn
        go_wp2_with fail
        refine wp_region_ext (by kernel_rfl) (by kernel_rfl) fun hx => ?_
        repeat (go_big_quiet_step ((go_at_call 33; exact Calls.ext (HM.out _ (bchain BV.out (Ext.below _))))))
        refine wpQuiet_nil ?_
        intro w5 b5
        have HB5 := Lib.hid (bchain HBr.out b5)
        clear b5
        cases jt
        · obtain rfl := hrf rfl
          go_wp2
          go_ret
          exact ⟨rfl, bchain HB.out HB5.out⟩
        · go_wp2
          go_roundw
          case rel => exact ⟨n + 1, by omega, by go_num, NX.out (by simp), HB5⟩
          case measure => simp [intOf]; omega
      · have d0 : decide (0 ≤ sn) = false := decide_eq_false h0
        have ht : jt = true := by rw [hjn, show decide (sn < 0) = true from decide_eq_true (by omega)]; rfl
        subst ht
        clear hm hjn hrf
        go_wp2_with fail
        refine wp_region_ext (by kernel_rfl) (by kernel_rfl) fun hx => ?_
        repeat (go_big_quiet_step (fail))
        refine wpQuiet_nil ?_
        intro w5 b5
        have HB5 := Lib.hid (bchain HBr.out b5)
        clear b5
        go_wp2
        go_roundw
        case rel => exact ⟨n + 1, by omega, by go_num, NX.out (by simp), HB5⟩
        case measure => simp [intOf]; omega
    obtain rfl : n = 4 := by omega
    obtain rfl := HR.out.2 HJ.out
    obtain ⟨t0, t1, t2, t3, t4, t5, t6, t7, t8, t9, t10⟩ := xS.cells
    clear xS xL
    go_wp2_with fail
    (with_reducible refine (H5.out _).mono ?_)
    rintro e w1 ⟨rfl, b1⟩
    go_wp2
    go_ret
    exact ⟨rfl, bchain (bchain HB.out HBr.out) b1⟩

set_option maxRecDepth 100000 in
set_option maxHeartbeats 8000000 in
theorem rTimes_any (L : Lay) (w : World) :
    Calls Tryd.prog 36 #[.agg #[.int .i64 L.t0, .int .i64 L.t1, .int .i64 L.t2, .int .i64 L.t3, .int .i64 L.t4, .int .i64 L.t5, .int .i64 L.t6]] w fun e w' => e = .returned (.bool (timesT L)) ∧ Below w.heap.size w w' := by
  have hr : (∀ (j : Nat) (z : Int), L.times[j]? = some z → ¬ (1 ≤ z ∧ z ≤ 1000) → timesT L = false) ∧ ((∀ (j : Nat) (z : Int), j < 7 → L.times[j]? = some z → 1 ≤ z ∧ z ≤ 1000) → timesT L = true) := by
    unfold timesT
    refine ⟨fun j z hj h => ?_, fun h => ?_⟩
    · rw [List.all_eq_false]
      exact ⟨z, List.mem_of_getElem? hj, by simpa using h⟩
    · rw [List.all_eq_true]
      intro z hz
      obtain ⟨j, hj⟩ := List.mem_iff_getElem?.1 hz
      have hlt : j < 7 := by have := (List.getElem?_eq_some_iff.1 hj).1; simpa [Lay.times] using this
      have := h j z hlt hj
      simp
      omega
  have hsome : ∀ j, j < 7 → ∃ z, L.times[j]? = some z := fun j hj => ⟨_, List.getElem?_eq_getElem (by simpa [Lay.times] using hj)⟩
  generalize timesT L = r at hr ⊢
  have HR := Lib.hid hr
  have HS := Lib.hid hsome
  have hc : ∀ (W : World) (j : Nat) (z : Int), L.times[j]? = some z → ((W.alloc (.cells #[.int .i64 L.t0, .int .i64 L.t1, .int .i64 L.t2, .int .i64 L.t3, .int .i64 L.t4, .int .i64 L.t5, .int .i64 L.t6] 27)).alloc (.cells #[.int .i64 L.t0, .int .i64 L.t1, .int .i64 L.t2, .int .i64 L.t3, .int .i64 L.t4, .int .i64 L.t5, .int .i64 L.t6] 91)).cell? ⟨W.heap.size + 1, j, none⟩ = some (.int .i64 z) := fun W j z hj => by
    rw [World.cell?_alloc_at _ _ _ _ (by simp)]
    have hlt : j < 7 := by have := (List.getElem?_eq_some_iff.1 hj).1; simpa [Lay.times] using this
    obtain rfl | rfl | rfl | rfl | rfl | rfl | rfl : j = 0 ∨ j = 1 ∨ j = 2 ∨ j = 3 ∨ j = 4 ∨ j = 5 ∨ j = 6 := by omega
    all_goals (simp [Lay.times] at hj; subst hj; rfl)
  have HC := Lib.hid (hc w)
  clear hr hc hsome
  go_enter Tryd.func36, Tryd.ntmps36
  go_wp2_with fail
  obtain ⟨Y, hY⟩ : ∃ Y, Y = (w.alloc (.cells #[.int .i64 L.t0, .int .i64 L.t1, .int .i64 L.t2, .int .i64 L.t3, .int .i64 L.t4, .int .i64 L.t5, .int .i64 L.t6] 27)).alloc (.cells #[.int .i64 L.t0, .int .i64 L.t1, .int .i64 L.t2, .int .i64 L.t3, .int .i64 L.t4, .int .i64 L.t5, .int .i64 L.t6] 91) := ⟨_, rfl⟩
  have HB : Hid (Below w.heap.size w Y) := Lib.hid (by rw [hY]; exact bchain bself bself)
  rw [← hY] at HC ⊢
  have lg : w.heap.size + 1 < Y.heap.size := by rw [hY]; simp
  clear hY
  go_loop [4] (fun x4 => ∃ n : Nat, n ≤ 7 ∧ x4 = .int .i64 n ∧ Hid (∀ (j : Nat) (z : Int), j < n → L.times[j]? = some z → 1 ≤ z ∧ z ≤ 1000)) (fun x4 => 7 - (intOf x4).toNat)
  case atStart => exact ⟨0, by omega, rfl, Lib.hid (fun j z hj => absurd hj (Nat.not_lt_zero _))⟩
  case round =>
    obtain ⟨n, hn, rfl, HJ⟩ := hrel
    by_cases hn7 : n < 7
    · obtain ⟨z, hz⟩ := HS.out n hn7
      have c0 := HC.out n z hz
      have hrf := HR.out.1 n z hz
      have hn8 : (n : Int) < 7 := by omega
      have next : 1 ≤ z ∧ z ≤ 1000 → Hid (∀ (j : Nat) (y : Int), j < n + 1 → L.times[j]? = some y → 1 ≤ y ∧ y ≤ 1000) := fun h => Lib.hid fun j y hj hy => by
        by_cases e : j = n
        · subst e
          rw [hz] at hy
          cases hy
          exact h
        · exact HJ.out j y (by omega) hy
      have NX := Lib.hid next
      have HRF := Lib.hid hrf
      clear next hz hrf
      by_cases h0 : 1 ≤ z
      · have d0 : decide (z < 1) = false := decide_eq_false (by omega)
        by_cases h1 : z ≤ 1000
        · have d1 : decide (1000 < z) = false := decide_eq_false (by omega)
          go_wp2
          go_round
          case rel => exact ⟨n + 1, by omega, by go_num, NX.out ⟨h0, h1⟩⟩
          case measure => simp [intOf]; omega
        · have d1 : decide (1000 < z) = true := decide_eq_true (by omega)
          obtain rfl := HRF.out (fun h => h1 h.2)
          go_wp2
          go_ret
          exact ⟨rfl, HB.out⟩
      · have d0 : decide (z < 1) = true := decide_eq_true (by omega)
        obtain rfl := HRF.out (fun h => h0 h.1)
        go_wp2
        go_ret
        exact ⟨rfl, HB.out⟩
    obtain rfl : n = 7 := by omega
    obtain rfl := HR.out.2 HJ.out
    go_wp2
    go_ret
    exact ⟨rfl, HB.out⟩
end Go.Proofs.YtmnkgnoljllnnaaDoor

/-
  lockbarref06.exit, flank.
-/
namespace Go.Proofs.YtmnkgnoljllnnaaDoor
open Go.RowKit Go.Shelf

def exitR (L : Lay) (x : Ext') : Bool := x.over.all (fun s => stepB L s.s s.i s.o) && (hasB L x.s x.p && decide (x.over.length ≤ 2))

set_option maxRecDepth 100000 in
set_option maxHeartbeats 8000000 in
theorem rExitOf_any (L : Lay) (p : Where) (x : Ext') (v : Value) (w : World) (hL : LayAt w p L) (hv : Sl w 3 Stp.enc v x.over) :
    Calls Tryd.prog 34 #[L.val p, .agg #[.int .i64 x.s, .int .i64 x.p, v]] w fun e w' => e = .returned (.bool (exitR L x)) ∧ Below w.heap.size w w' := by
  have hr : (∀ (k : Nat) (st : Stp), x.over[k]? = some st → stepB L st.s st.i st.o = false → exitR L x = false) ∧ ((∀ (k : Nat) (st : Stp), k < x.over.length → x.over[k]? = some st → stepB L st.s st.i st.o = true) → exitR L x = (hasB L x.s x.p && decide (x.over.length ≤ 2))) := by
    unfold exitR
    refine ⟨fun k st hk h => ?_, fun h => ?_⟩
    · rw [show x.over.all (fun s => stepB L s.s s.i s.o) = false from ?_]
      · rfl
      · rw [List.all_eq_false]
        exact ⟨st, List.mem_of_getElem? hk, by simp [h]⟩
    · rw [show x.over.all (fun s => stepB L s.s s.i s.o) = true from ?_]
      · rfl
      · rw [List.all_eq_true]
        intro st hst
        obtain ⟨k, hk⟩ := List.mem_iff_getElem?.1 hst
        exact h k st (List.getElem?_eq_some_iff.1 hk).1 hk
  generalize exitR L x = r at hr ⊢
  have ht := fun w1 (b : Below w.heap.size w w1) => rThere_any L p x.s x.p w1 (hL.below b)
  generalize hasB L x.s x.p = hb at hr ht
  have hs := fun (s i o : Int) w1 (b : Below w.heap.size w w1) => rStep_any L p s i o w1 (hL.below b)
  obtain ⟨A, cap, rfl, hlc, hcm, hA⟩ := hv
  have hm : x.over.length ≤ 9223372036854775807 := Nat.le_trans hlc hcm
  have HR := Lib.hid hr
  have HT := Lib.hid ht
  have HS := Lib.hid hs
  have HA := Lib.hid hA
  have hX := (BoxL.make (W := w) (L := L) (p := p) (n := w.heap.size) 29 rfl).below (bself (o := .cells #[.int .i64 x.s, .int .i64 x.p, .slice A x.over.length cap] 40))
  clear hr ht hs hL hlc hcm hA
  unfold Lay.val at *
  go_enter Tryd.func34, Tryd.ntmps34
  go_wp2_with fail
  obtain ⟨Y, hY⟩ : ∃ Y, Y = (w.alloc (.cells (L.cells p).toArray 29)).alloc (.cells #[.int .i64 x.s, .int .i64 x.p, .slice A x.over.length cap] 40) := ⟨_, rfl⟩
  have HB : Hid (Below w.heap.size w Y) := Lib.hid (by rw [hY]; exact bchain bself bself)
  have HX : Hid (BoxL Y w.heap.size L p) := Lib.hid (by rw [hY]; exact hX)
  have q0 : Y.cell? ⟨w.heap.size + 1, 0, none⟩ = some (.int .i64 x.s) := by rw [hY, World.cell?_alloc_at _ _ _ _ (by simp)]; rfl
  have q1 : Y.cell? ⟨w.heap.size + 1, 1, none⟩ = some (.int .i64 x.p) := by rw [hY, World.cell?_alloc_at _ _ _ _ (by simp)]; rfl
  have q2 : Y.cell? ⟨w.heap.size + 1, 2, none⟩ = some (.slice A x.over.length cap) := by rw [hY, World.cell?_alloc_at _ _ _ _ (by simp)]; rfl
  have lq : w.heap.size + 1 < Y.heap.size := by rw [hY]; simp
  have hY' : (w.alloc (.cells #[.slice p.a0 L.secs.length p.c0, .slice p.a1 L.sigs.length p.c1, .slice p.a2 L.exits.length p.c2, .slice p.a3 L.flanks.length p.c3, .int .i64 L.t0, .int .i64 L.t1, .int .i64 L.t2, .int .i64 L.t3, .int .i64 L.t4, .int .i64 L.t5, .int .i64 L.t6] 29)).alloc (.cells #[.int .i64 x.s, .int .i64 x.p, .slice A x.over.length cap] 40) = Y := hY.symm
  rw [hY']
  clear hY hY' hX
  go_loopw [5] (fun x5 wr => ∃ n : Nat, n ≤ x.over.length ∧ x5 = .int .i64 n ∧ Hid (∀ (k : Nat) (st : Stp), k < n → x.over[k]? = some st → stepB L st.s st.i st.o = true) ∧ Hid (Below Y.heap.size Y wr)) (fun x5 _ => x.over.length - (intOf x5).toNat)
  case atStart => exact ⟨0, by omega, rfl, Lib.hid (fun k st hk => absurd hk (Nat.not_lt_zero _)), Lib.hid (Below.refl _ _)⟩
  case round =>
    obtain ⟨n, hn, rfl, HJ, HBr⟩ := hrel
    obtain ⟨V, rfl⟩ : ∃ V : World, V = wr := ⟨_, rfl⟩
    have xL := HX.out.below HBr.out
    have lw := xL.1
    obtain ⟨r0, r1, r2, r3, r4, r5, r6, r7, r8, r9, r10⟩ := xL.cells
    have s0 := (HBr.out.cell (p := ⟨w.heap.size + 1, 0, none⟩) lq).trans q0
    have s1 := (HBr.out.cell (p := ⟨w.heap.size + 1, 1, none⟩) lq).trans q1
    have s2 := (HBr.out.cell (p := ⟨w.heap.size + 1, 2, none⟩) lq).trans q2
    have lq2 : w.heap.size + 1 < V.heap.size := Nat.lt_of_lt_of_le lq HBr.out.size
    have BV := Lib.hid (bchain HB.out HBr.out)
    clear xL
    by_cases hlt : n < x.over.length
    · obtain ⟨b, off, hAe, hrow⟩ := HA.out.get hlt
      subst hAe
      obtain ⟨st, hst⟩ : ∃ st, x.over[n]? = some st := ⟨x.over[n], List.getElem?_eq_getElem hlt⟩
      have hr2 := hrow.below BV.out
      have d0 : V.cell? ⟨b, off + n * 3, none⟩ = some (.int .i64 st.s) := hr2.2 n st hst 0 _ rfl
      have d1 : V.cell? ⟨b, off + n * 3 + 1, none⟩ = some (.int .i64 st.i) := hr2.2 n st hst 1 _ rfl
      have d2 : V.cell? ⟨b, off + n * 3 + 2, none⟩ = some (.int .i64 st.o) := hr2.2 n st hst 2 _ rfl
      have lb : b < V.heap.size := hr2.1
      have h3 := fun w1 hw => HS.out st.s st.i st.o w1 hw
      have hrf := HR.out.1 n st hst
      have next : stepB L st.s st.i st.o = true → Hid (∀ (k : Nat) (st : Stp), k < n + 1 → x.over[k]? = some st → stepB L st.s st.i st.o = true) := fun h => Lib.hid fun k st' hk hk' => by
        by_cases e : k = n
        · subst e
          rw [hst] at hk'
          cases hk'
          exact h
        · exact HJ.out k st' (by omega) hk'
      generalize stepN L st.s st.i st.o = sn at h3
      generalize stepB L st.s st.i st.o = sb at h3 hrf next
      have H3 := Lib.hid h3
      have NX := Lib.hid next
      clear h3 next hst hr2 hrow
      go_wp2_with fail
      refine wp_region_ext (by kernel_rfl) (by kernel_rfl) fun hx => ?_
      repeat (go_big_quiet_step ((go_at_call 67; exact Calls.ext (H3.out _ (bchain BV.out (Ext.below _))))))
      refine wpQuiet_nil ?_
      intro w5 b5
      have HB5 := Lib.hid (bchain HBr.out b5)
      clear b5
      cases sb
      · obtain rfl := hrf rfl
        go_wp2
        go_ret
        exact ⟨rfl, bchain HB.out HB5.out⟩
      · go_wp2
        go_roundw
        case rel => exact ⟨n + 1, by omega, by go_num, NX.out (by simp), HB5⟩
        case measure => simp [intOf]; omega
    obtain rfl : n = x.over.length := by omega
    obtain rfl := HR.out.2 HJ.out
    go_wp2_with fail
    (with_reducible refine (HT.out _ BV.out).mono ?_)
    rintro e w1 ⟨rfl, b1⟩
    obtain ⟨c1, f1, l1⟩ := bcell b1
    have lq3 := l1 _ lq2
    have HB1 := Lib.hid (bchain BV.out b1)
    clear b1 f1 l1
    cases hb
    · go_wp2
      go_ret
      exact ⟨by simp, HB1.out⟩
    · go_wp2
      all_goals
        go_ret
        exact ⟨ret_bool (by simp; try omega), HB1.out⟩
end Go.Proofs.YtmnkgnoljllnnaaDoor

/-
  lockbarref06.flank.
-/
namespace Go.Proofs.YtmnkgnoljllnnaaDoor
open Go.RowKit Go.Shelf

set_option maxRecDepth 100000 in
set_option maxHeartbeats 8000000 in
theorem rFlank_any (L : Lay) (p : Where) (f : Flk) (w : World) (hL : LayAt w p L) :
    Calls Tryd.prog 35 #[L.val p, .agg f.enc.toArray] w fun e w' => e = .returned (.bool (flankT L f)) ∧ Below w.heap.size w w' := by
  obtain ⟨s, way, pt, pos⟩ := f
  unfold Flk.enc
  have hr : flankT L ⟨s, way, pt, pos⟩ = true ↔ flankP L s way pt pos := decide_eq_true_iff
  generalize flankT L ⟨s, way, pt, pos⟩ = r at hr ⊢
  unfold flankP at hr
  have HR := Lib.hid hr
  have m0 : L.secs.length ≤ 9223372036854775807 := Nat.le_trans hL.l0.1 hL.l0.2
  have HL := Lib.hid hL
  clear hr hL
  obtain ⟨a0, a1, a2, a3, p0, p1, p2, p3⟩ := p
  unfold Lay.val
  dsimp only
  by_cases g1 : s < 0
  · have d1 : decide (s < 0) = true := decide_eq_true g1
    have e : r = false := by
      have h := HR.out
      cases r
      · rfl
      · have := of_decide_eq_true (h.1 rfl).1; omega
    subst e
    clear HR
    go_enter Tryd.func35, Tryd.ntmps35
    go_wp2
    go_ret
    exact ⟨rfl, bchain bself bself⟩
  have d1 : decide (s < 0) = false := decide_eq_false g1
  obtain ⟨n1, rfl⟩ : ∃ n : Nat, s = (n : Int) := ⟨s.toNat, by omega⟩
  by_cases g2 : L.secs.length ≤ n1
  · have d2 : decide (L.secs.length ≤ n1) = true := decide_eq_true g2
    have e : r = false := by
      have h := HR.out
      cases r
      · rfl
      · have := of_decide_eq_true (h.1 rfl).1; omega
    subst e
    clear HR
    go_enter Tryd.func35, Tryd.ntmps35
    go_wp2
    go_ret
    exact ⟨rfl, bchain bself bself⟩
  have d2 : decide (L.secs.length ≤ n1) = false := decide_eq_false g2
  by_cases g3 : pt < 0
  · have d3 : decide (pt < 0) = true := decide_eq_true g3
    have e : r = false := by
      have h := HR.out
      cases r
      · rfl
      · have := of_decide_eq_true (h.1 rfl).2.1; omega
    subst e
    clear HR
    go_enter Tryd.func35, Tryd.ntmps35
    go_wp2
    go_ret
    exact ⟨rfl, bchain bself bself⟩
  have d3 : decide (pt < 0) = false := decide_eq_false g3
  obtain ⟨n2, rfl⟩ : ∃ n : Nat, pt = (n : Int) := ⟨pt.toNat, by omega⟩
  by_cases g4 : L.secs.length ≤ n2
  · have d4 : decide (L.secs.length ≤ n2) = true := decide_eq_true g4
    have e : r = false := by
      have h := HR.out
      cases r
      · rfl
      · have := of_decide_eq_true (h.1 rfl).2.1; omega
    subst e
    clear HR
    go_enter Tryd.func35, Tryd.ntmps35
    go_wp2
    go_ret
    exact ⟨rfl, bchain bself bself⟩
  have d4 : decide (L.secs.length ≤ n2) = false := decide_eq_false g4
  by_cases g5 : n1 = n2
  · have d5 : (n1 == n2) = true := by simpa using g5
    have e : r = false := by
      have h := HR.out
      cases r
      · rfl
      · exact absurd (congrArg (Nat.cast : Nat → Int) g5) ((h.1 rfl).2.2.1)
    subst e
    clear HR
    clear d1 d2 g1 g2
    subst g5
    go_enter Tryd.func35, Tryd.ntmps35
    go_wp2
    go_ret
    exact ⟨rfl, bchain bself bself⟩
  have d5 : ((n1 : Int) == (n2 : Int)) = false := by simp; omega
  have d5' : ¬ (n1 : Int) = (n2 : Int) := by omega
  by_cases g6 : pos < 0
  · have d6 : decide (pos < 0) = true := decide_eq_true g6
    have e : r = false := by
      have h := HR.out
      cases r
      · rfl
      · have := (h.1 rfl).2.2.2.1; omega
    subst e
    clear HR
    go_enter Tryd.func35, Tryd.ntmps35
    go_wp2
    go_ret
    exact ⟨rfl, bchain bself bself⟩
  have d6 : decide (pos < 0) = false := decide_eq_false g6
  by_cases g7 : 1 < pos
  · have d7 : decide ((1 : Int) < pos) = true := decide_eq_true g7
    have e : r = false := by
      have h := HR.out
      cases r
      · rfl
      · have := (h.1 rfl).2.2.2.2.1; omega
    subst e
    clear HR
    go_enter Tryd.func35, Tryd.ntmps35
    go_wp2
    go_ret
    exact ⟨rfl, bchain bself bself⟩
  have d7 : decide ((1 : Int) < pos) = false := decide_eq_false g7
  obtain ⟨c1, hc1⟩ : ∃ c, L.secs[n1]? = some c := ⟨_, List.getElem?_eq_getElem (by omega)⟩
  obtain ⟨c2, hc2⟩ : ∃ c, L.secs[n2]? = some c := ⟨_, List.getElem?_eq_getElem (by omega)⟩
  obtain ⟨bS, off, hAe, hbS, q1⟩ := kind_cell HL.out (by omega) hc1
  obtain ⟨bS', off', hAe', _, q2⟩ := kind_cell HL.out (by omega) hc2
  dsimp only at hAe hAe'
  subst hAe
  simp only [Option.some.injEq, Addr.mk.injEq, and_true] at hAe'
  obtain ⟨rfl, rfl⟩ := hAe'
  have ek1 : secK L (n1 : Int) = c1.k := by
    unfold secK secAt
    rw [if_pos (by omega), Int.toNat_natCast, hc1]
  have ek2 : secK L (n2 : Int) = c2.k := by
    unfold secK secAt
    rw [if_pos (by omega), Int.toNat_natCast, hc2]
  have hw := fun w1 => rWays_any c1.k w1
  obtain ⟨m, hm⟩ : ∃ m, m = kMany c1.k := ⟨_, rfl⟩
  have hR := HR.out
  rw [ek1, ek2, ← hm] at hR
  rw [← hm] at hw
  generalize c1.k = k1 at q1 hw
  generalize c2.k = k2 at q2 hR
  have e : r = (decide (0 ≤ way) && (decide (way < m) && decide (k2 = 2))) := by
    rw [Bool.eq_iff_iff, hR]
    simp only [Bool.and_eq_true, decide_eq_true_eq]
    constructor
    · intro q; exact ⟨q.2.2.2.2.2.1, q.2.2.2.2.2.2.1, q.2.2.2.2.2.2.2⟩
    · intro q; exact ⟨decide_eq_true (by omega), decide_eq_true (by omega), fun e => g5 (by omega), by omega, by omega, q.1, q.2.1, q.2.2⟩
  have HW := Lib.hid hw
  have HE := Lib.hid e
  have lb1 : bS < w.heap.size + 1 := by omega
  have lb2 : bS < w.heap.size + 1 + 1 := by omega
  clear hw e hR HR ek1 ek2 hm hc1 hc2 HL
  have hcase : decide (0 ≤ way) = false ∨ (decide (0 ≤ way) = true ∧ decide (way < m) = false) ∨ (decide (0 ≤ way) = true ∧ decide (way < m) = true) := by
    cases decide (0 ≤ way) <;> cases decide (way < m) <;> simp
  rcases hcase with d8 | ⟨d8, d9⟩ | ⟨d8, d9⟩
  all_goals
    by_cases g10 : k2 = 2
    · subst g10
      go_enter Tryd.func35, Tryd.ntmps35
      go_wp2_with fail
      refine wp_region_ext (by kernel_rfl) (by kernel_rfl) fun hx => ?_
      repeat (go_big_quiet_step ((go_at_call 28; exact Calls.ext (HW.out _))))
      refine wpQuiet_nil ?_
      intro w5 b5
      go_wp2
      go_ret
      exact ⟨by rw [HE.out]; simp [*], bchain (bchain bself bself) b5⟩
    · have d10 : (k2 == 2) = false := by simpa using g10
      go_enter Tryd.func35, Tryd.ntmps35
      go_wp2_with fail
      refine wp_region_ext (by kernel_rfl) (by kernel_rfl) fun hx => ?_
      repeat (go_big_quiet_step ((go_at_call 28; exact Calls.ext (HW.out _))))
      refine wpQuiet_nil ?_
      intro w5 b5
      go_wp2
      go_ret
      exact ⟨by rw [HE.out]; simp [*], bchain (bchain bself bself) b5⟩
end Go.Proofs.YtmnkgnoljllnnaaDoor

/-
  lockbarref06.Right: it answers as layout.Right.
-/
namespace Go.Proofs.YtmnkgnoljllnnaaDoor
open Go.RowKit Go.Shelf

def rightR (L : Lay) : Bool := L.secs.all (secR L) && (L.sigs.all (fun x => hasB L x.s x.p) && (L.exits.all (exitR L) && (L.flanks.all (flankT L) && (sizesT L && timesT L))))
theorem jn_mem (c : Sec) (x : Prt) : ∀ i, x ∈ jn c i ↔ ∃ j, j < i ∧ 0 ≤ c.S j ∧ x = ⟨c.S j, c.P j⟩
  | 0 => by simp [jn]
  | i + 1 => by
    simp only [jn, List.mem_append, jn_mem c x i]
    constructor
    · rintro (⟨j, hj, h⟩ | h)
      · exact ⟨j, by omega, h⟩
      · split at h
        · rename_i h0
          simp only [List.mem_cons, List.not_mem_nil, or_false] at h
          exact ⟨i, by omega, h0, h⟩
        · cases h
    · rintro ⟨j, hj, h0, h⟩
      by_cases e : j = i
      · subst e
        exact .inr (by rw [if_pos h0]; simp [h])
      · exact .inl ⟨j, by omega, h0, h⟩
theorem sj_mem (xs : List Sec) (x : Prt) : ∀ n, x ∈ sj xs n ↔ ∃ k, k < n ∧ x ∈ jn (xs.getD k default) 4
  | 0 => by simp [sj]
  | n + 1 => by
    simp only [sj, List.mem_append, sj_mem xs x n]
    constructor
    · rintro (⟨k, hk, h⟩ | h)
      · exact ⟨k, by omega, h⟩
      · exact ⟨n, by omega, h⟩
    · rintro ⟨k, hk, h⟩
      by_cases e : k = n
      · subst e; exact .inr h
      · exact .inl ⟨k, by omega, h⟩
theorem portsL_mem (L : Lay) (x : Prt) : x ∈ portsL L ↔ (∃ c ∈ L.secs, ∃ j, j < 4 ∧ 0 ≤ c.S j ∧ x = ⟨c.S j, c.P j⟩) ∨ x ∈ L.sigs ∨ ∃ e ∈ L.exits, x = ⟨e.s, e.p⟩ := by
  unfold portsL
  simp only [List.mem_append, sj_mem, jn_mem, List.mem_map, exP]
  constructor
  · rintro (⟨k, hk, h⟩ | h | ⟨e, he, h⟩)
    · refine .inl ⟨_, ?_, h⟩
      rw [List.getD_eq_getElem?_getD, List.getElem?_eq_getElem hk]
      exact List.getElem_mem hk
    · exact .inr (.inl h)
    · exact .inr (.inr ⟨e, he, h.symm⟩)
  · rintro (⟨c, hc, h⟩ | h | ⟨e, he, h⟩)
    · obtain ⟨k, hk⟩ := List.mem_iff_getElem?.1 hc
      refine .inl ⟨k, (List.getElem?_eq_some_iff.1 hk).1, ?_⟩
      rw [List.getD_eq_getElem?_getD, hk]
      exact h
    · exact .inr (.inl h)
    · exact .inr (.inr ⟨e, he, h.symm⟩)
theorem jok_all (L : Lay) (c : Sec) : (jokT L c 0 = true ∧ jokT L c 1 = true ∧ jokT L c 2 = true ∧ jokT L c 3 = true) ↔ ∀ j, j < 4 → 0 ≤ c.S j → hasB L (c.S j) (c.P j) = true := by
  have key : ∀ i, jokT L c i = true ↔ (0 ≤ c.S i → hasB L (c.S i) (c.P i) = true) := fun i => by
    unfold jokT
    simp only [Bool.or_eq_true, decide_eq_true_eq]
    constructor
    · rintro (h | h)
      · intro g; omega
      · intro _; exact h
    · intro h
      by_cases g : 0 ≤ c.S i
      · exact .inr (h g)
      · exact .inl (by omega)
  simp only [key]
  constructor
  · rintro ⟨h0, h1, h2, h3⟩ j hj
    obtain rfl | rfl | rfl | rfl : j = 0 ∨ j = 1 ∨ j = 2 ∨ j = 3 := by omega
    all_goals assumption
  · intro h
    exact ⟨h 0 (by omega), h 1 (by omega), h 2 (by omega), h 3 (by omega)⟩
theorem rightR_eq (L : Lay) : rightR L = rightL L := by
  rw [Bool.eq_iff_iff]
  unfold rightR rightL portsT secR exitR overT
  simp only [Bool.and_eq_true, List.all_eq_true, decide_eq_true_eq]
  have hm : (∀ x ∈ portsL L, hasB L x.s x.p = true) ↔ (∀ c ∈ L.secs, ∀ j, j < 4 → 0 ≤ c.S j → hasB L (c.S j) (c.P j) = true) ∧ (∀ x ∈ L.sigs, hasB L x.s x.p = true) ∧ ∀ e ∈ L.exits, hasB L e.s e.p = true := by
    constructor
    · intro h
      exact ⟨fun c hc j hj h0 => h ⟨c.S j, c.P j⟩ ((portsL_mem L _).2 (.inl ⟨c, hc, j, hj, h0, rfl⟩)), fun x hx => h x ((portsL_mem L _).2 (.inr (.inl hx))), fun e he => h ⟨e.s, e.p⟩ ((portsL_mem L _).2 (.inr (.inr ⟨e, he, rfl⟩)))⟩
    · rintro ⟨h1, h2, h3⟩ x hx
      rcases (portsL_mem L x).1 hx with ⟨c, hc, j, hj, h0, rfl⟩ | h | ⟨e, he, rfl⟩
      · exact h1 c hc j hj h0
      · exact h2 x h
      · exact h3 e he
  constructor
  · rintro ⟨h1, h2, h3, h4, h5, h6⟩
    refine ⟨⟨⟨⟨⟨h5, h6⟩, fun c hc => (h1 c hc).2⟩, h4⟩, hm.2 ⟨fun c hc => (jok_all L c).1 ?_, h2, fun e he => (h3 e he).2.1⟩⟩, fun e he => ⟨(h3 e he).2.2, (h3 e he).1⟩⟩
    obtain ⟨⟨⟨⟨g0, g1⟩, g2⟩, g3⟩, _⟩ := h1 c hc
    exact ⟨g0, g1, g2, g3⟩
  · rintro ⟨⟨⟨⟨⟨h5, h6⟩, h1⟩, h4⟩, hp⟩, h3⟩
    obtain ⟨q1, q2, q3⟩ := hm.1 hp
    refine ⟨fun c hc => ?_, q2, fun e he => ⟨(h3 e he).2, q3 e he, (h3 e he).1⟩, h4, h5, h6⟩
    obtain ⟨g0, g1, g2, g3⟩ := (jok_all L c).2 (q1 c hc)
    exact ⟨⟨⟨⟨g0, g1⟩, g2⟩, g3⟩, h1 c hc⟩
theorem rightR_facts (L : Lay) : (∀ (n : Nat) (x : Sec), L.secs[n]? = some x → secR L x = false → rightR L = false) ∧ (∀ (n : Nat) (x : Prt), L.sigs[n]? = some x → hasB L x.s x.p = false → rightR L = false) ∧
    (∀ (n : Nat) (x : Ext'), L.exits[n]? = some x → exitR L x = false → rightR L = false) ∧ (∀ (n : Nat) (x : Flk), L.flanks[n]? = some x → flankT L x = false → rightR L = false) ∧
    ((∀ (j : Nat) (y : Sec), j < L.secs.length → L.secs[j]? = some y → secR L y = true) → (∀ (j : Nat) (y : Prt), j < L.sigs.length → L.sigs[j]? = some y → hasB L y.s y.p = true) → (∀ (j : Nat) (y : Ext'), j < L.exits.length → L.exits[j]? = some y → exitR L y = true) →
      (∀ (j : Nat) (y : Flk), j < L.flanks.length → L.flanks[j]? = some y → flankT L y = true) → rightR L = (sizesT L && timesT L)) := by
  have none {α : Type} {f : α → Bool} {xs : List α} {n : Nat} {x : α} (hx : xs[n]? = some x) (h : f x = false) : xs.all f = false := by
    rw [List.all_eq_false]; exact ⟨x, List.mem_of_getElem? hx, by simp [h]⟩
  have all {α : Type} {f : α → Bool} {xs : List α} (h : ∀ (j : Nat) (y : α), j < xs.length → xs[j]? = some y → f y = true) : xs.all f = true := by
    rw [List.all_eq_true]
    intro y hy
    obtain ⟨j, hj⟩ := List.mem_iff_getElem?.1 hy
    exact h j y (List.getElem?_eq_some_iff.1 hj).1 hj
  unfold rightR
  refine ⟨fun n x hx h => ?_, fun n x hx h => ?_, fun n x hx h => ?_, fun n x hx h => ?_, fun h1 h2 h3 h4 => ?_⟩
  · rw [none hx h]; rfl
  · rw [none (f := fun x : Prt => hasB L x.s x.p) hx h]; simp
  · rw [none hx h]; simp
  · rw [none hx h]; simp
  · rw [all h1, all (f := fun x : Prt => hasB L x.s x.p) h2, all h3, all h4]; rfl

set_option maxRecDepth 100000 in
set_option maxHeartbeats 16000000 in
theorem rRight_any (L : Lay) (p : Where) (w : World) (hL : LayAt w p L) :
    Calls Tryd.prog 18 #[L.val p] w fun e w' => e = .returned (.bool (rightL L)) ∧ Below w.heap.size w w' := by
  have hr := rightR_facts L
  rw [rightR_eq] at hr
  unfold sizesT at hr
  generalize rightL L = r at hr ⊢
  have h1 := fun (x : Sec) w1 (b : Below w.heap.size w w1) => rSection_any L p x w1 (hL.below b)
  have h2 := fun (s q : Int) w1 (b : Below w.heap.size w w1) => rThere_any L p s q w1 (hL.below b)
  have h3 := fun (x : Ext') (v : Value) w1 (b : Below w.heap.size w w1) (hv : Sl w 3 Stp.enc v x.over) => rExitOf_any L p x v w1 (hL.below b) (hv.below b)
  have h4 := fun (x : Flk) w1 (b : Below w.heap.size w w1) => rFlank_any L p x w1 (hL.below b)
  have h6 := fun w1 => rTimes_any L w1
  have m0 : L.secs.length ≤ 9223372036854775807 := Nat.le_trans hL.l0.1 hL.l0.2
  have m1 : L.sigs.length ≤ 9223372036854775807 := Nat.le_trans hL.l1.1 hL.l1.2
  have m2 : L.exits.length ≤ 9223372036854775807 := Nat.le_trans hL.l2.1 hL.l2.2
  have m3 : L.flanks.length ≤ 9223372036854775807 := Nat.le_trans hL.l3.1 hL.l3.2
  have hX := BoxL.make (W := w) (L := L) (p := p) (n := w.heap.size) 29 rfl
  generalize timesT L = tt at hr h6
  have HR := Lib.hid hr
  have H1 := Lib.hid h1
  have H2 := Lib.hid h2
  have H3 := Lib.hid h3
  have H4 := Lib.hid h4
  have H6 := Lib.hid h6
  have HL := Lib.hid hL
  clear hr h1 h2 h3 h4 h6 hL
  obtain ⟨a0, a1, a2, a3, p0, p1, p2, p3⟩ := p
  unfold Lay.val at *
  unfold Lay.cells at hX
  go_enter Tryd.func18, Tryd.ntmps18
  go_wp2_with fail
  obtain ⟨Y, hY⟩ : ∃ Y, Y = w.alloc (.cells #[.slice a0 L.secs.length p0, .slice a1 L.sigs.length p1, .slice a2 L.exits.length p2, .slice a3 L.flanks.length p3, .int .i64 L.t0, .int .i64 L.t1, .int .i64 L.t2, .int .i64 L.t3, .int .i64 L.t4, .int .i64 L.t5, .int .i64 L.t6] 29) := ⟨_, rfl⟩
  have HB : Hid (Below w.heap.size w Y) := Lib.hid (by rw [hY]; exact bself)
  have HX : Hid (BoxL Y w.heap.size L ⟨a0, a1, a2, a3, p0, p1, p2, p3⟩) := Lib.hid (by rw [hY]; exact hX)
  rw [← hY]
  clear hY hX
  go_loopw [3] (fun c wr => ∃ n : Nat, n ≤ L.secs.length ∧ c = .int .i64 n ∧ Hid (∀ (j : Nat) (y : Sec), j < n → L.secs[j]? = some y → secR L y = true) ∧ Hid (Below Y.heap.size Y wr)) (fun c _ => L.secs.length - (intOf c).toNat)
  case atStart => exact ⟨0, Nat.zero_le _, rfl, Lib.hid (fun j y hj => absurd hj (Nat.not_lt_zero _)), Lib.hid (Below.refl _ _)⟩
  case round =>
    obtain ⟨n0, hn, rfl, HJ, HBr⟩ := hrel
    obtain ⟨V, rfl⟩ : ∃ V : World, V = wr := ⟨_, rfl⟩
    have xL := HX.out.below HBr.out
    have lw := xL.1
    obtain ⟨r0, r1, r2, r3, r4, r5, r6, r7, r8, r9, r10⟩ := xL.cells
    have BV := Lib.hid (bchain HB.out HBr.out)
    clear xL
    by_cases hlt : n0 < L.secs.length
    · obtain ⟨b, off, hAe, hrow⟩ := HL.out.secs.get hlt
      dsimp only at hAe
      subst hAe
      obtain ⟨x, hx⟩ : ∃ x, L.secs[n0]? = some x := ⟨L.secs[n0], List.getElem?_eq_getElem hlt⟩
      obtain ⟨k0, k1, k2, k3, k4, k5, k6, k7, k8, k9, k10⟩ := sec_cells (hrow.below BV.out) hx
      have lb : b < V.heap.size := (hrow.below BV.out).1
      have h3 := fun w1 hw => H1.out x w1 hw
      unfold Sec.enc at h3
      have hrf := HR.out.1 n0 x hx
      have next : secR L x = true → Hid (∀ (j : Nat) (y : Sec), j < n0 + 1 → L.secs[j]? = some y → secR L y = true) := fun h => Lib.hid fun j y hj hy => by
        by_cases e : j = n0
        · subst e
          rw [hx] at hy
          cases hy
          exact h
        · exact HJ.out j y (by omega) hy
      generalize secR L x = sb at h3 hrf next
      have H5 := Lib.hid h3
      have NX := Lib.hid next
      clear h3 next hx hrow
      go_wp2_with fail
      refine wp_region_ext (by kernel_rfl) (by kernel_rfl) fun hx => ?_
      repeat (go_big_quiet_step ((go_at_call 32; exact Calls.ext (H5.out _ (bchain BV.out (Ext.below _))))))
      refine wpQuiet_nil ?_
      intro w5 b5
      have HB5 := Lib.hid (bchain HBr.out b5)
      clear b5
      cases sb
      · obtain rfl := hrf rfl
        go_wp2
        go_ret
        exact ⟨rfl, bchain HB.out HB5.out⟩
      · go_wp2
        go_roundw
        case rel => exact ⟨n0 + 1, by omega, by go_num, NX.out (by simp), HB5⟩
        case measure => simp [intOf]; omega
    obtain rfl : n0 = L.secs.length := by omega
    have HJ0 := HJ
    go_wp2_with fail
    clear r0 r1 r2 r3 r4 r5 r6 r7 r8 r9 r10 hlt hn lw BV HJ
    obtain ⟨V0, rfl⟩ : ∃ V0 : World, V0 = V := ⟨_, rfl⟩
    have HBs0 := HBr
    clear HBr
    go_loopw [4] (fun c wr => ∃ n : Nat, n ≤ L.sigs.length ∧ c = .int .i64 n ∧ Hid (∀ (j : Nat) (y : Prt), j < n → L.sigs[j]? = some y → hasB L y.s y.p = true) ∧ Hid (Below Y.heap.size Y wr)) (fun c _ => L.sigs.length - (intOf c).toNat)
    case atStart => exact ⟨0, Nat.zero_le _, rfl, Lib.hid (fun j y hj => absurd hj (Nat.not_lt_zero _)), HBs0⟩
    case round =>
      obtain ⟨n1, hn, rfl, HJ, HBr⟩ := hrel
      obtain ⟨V, rfl⟩ : ∃ V : World, V = wr := ⟨_, rfl⟩
      have xL := HX.out.below HBr.out
      have lw := xL.1
      obtain ⟨r0, r1, r2, r3, r4, r5, r6, r7, r8, r9, r10⟩ := xL.cells
      have BV := Lib.hid (bchain HB.out HBr.out)
      clear xL
      by_cases hlt : n1 < L.sigs.length
      · obtain ⟨b, off, hAe, hrow⟩ := HL.out.sigs.get hlt
        dsimp only at hAe
        subst hAe
        obtain ⟨x, hx⟩ : ∃ x, L.sigs[n1]? = some x := ⟨L.sigs[n1], List.getElem?_eq_getElem hlt⟩
        have k0 : V.cell? ⟨b, off + n1 * 2, none⟩ = some (.int .i64 x.s) := (hrow.below BV.out).2 n1 x hx 0 _ rfl
        have k1 : V.cell? ⟨b, off + n1 * 2 + 1, none⟩ = some (.int .i64 x.p) := (hrow.below BV.out).2 n1 x hx 1 _ rfl
        have lb : b < V.heap.size := (hrow.below BV.out).1
        have h3 := fun w1 hw => H2.out x.s x.p w1 hw
        have hrf := HR.out.2.1 n1 x hx
        have next : hasB L x.s x.p = true → Hid (∀ (j : Nat) (y : Prt), j < n1 + 1 → L.sigs[j]? = some y → hasB L y.s y.p = true) := fun h => Lib.hid fun j y hj hy => by
          by_cases e : j = n1
          · subst e
            rw [hx] at hy
            cases hy
            exact h
          · exact HJ.out j y (by omega) hy
        generalize hasB L x.s x.p = sb at h3 hrf next
        have H5 := Lib.hid h3
        have NX := Lib.hid next
        clear h3 next hx hrow
        go_wp2_with fail
        refine wp_region_ext (by kernel_rfl) (by kernel_rfl) fun hx => ?_
        repeat (go_big_quiet_step ((go_at_call 33; exact Calls.ext (H5.out _ (bchain BV.out (Ext.below _))))))
        refine wpQuiet_nil ?_
        intro w5 b5
        have HB5 := Lib.hid (bchain HBr.out b5)
        clear b5
        cases sb
        · obtain rfl := hrf rfl
          go_wp2
          go_ret
          exact ⟨rfl, bchain HB.out HB5.out⟩
        · go_wp2
          go_roundw
          case rel => exact ⟨n1 + 1, by omega, by go_num, NX.out (by simp), HB5⟩
          case measure => simp [intOf]; omega
      obtain rfl : n1 = L.sigs.length := by omega
      have HJ1 := HJ
      go_wp2_with fail
      clear r0 r1 r2 r3 r4 r5 r6 r7 r8 r9 r10 hlt hn lw BV HJ
      obtain ⟨V1, rfl⟩ : ∃ V1 : World, V1 = V := ⟨_, rfl⟩
      have HBs1 := HBr
      clear HBr
      go_loopw [5] (fun c wr => ∃ n : Nat, n ≤ L.exits.length ∧ c = .int .i64 n ∧ Hid (∀ (j : Nat) (y : Ext'), j < n → L.exits[j]? = some y → exitR L y = true) ∧ Hid (Below Y.heap.size Y wr)) (fun c _ => L.exits.length - (intOf c).toNat)
      case atStart => exact ⟨0, Nat.zero_le _, rfl, Lib.hid (fun j y hj => absurd hj (Nat.not_lt_zero _)), HBs1⟩
      case round =>
        obtain ⟨n2, hn, rfl, HJ, HBr⟩ := hrel
        obtain ⟨V, rfl⟩ : ∃ V : World, V = wr := ⟨_, rfl⟩
        have xL := HX.out.below HBr.out
        have lw := xL.1
        obtain ⟨r0, r1, r2, r3, r4, r5, r6, r7, r8, r9, r10⟩ := xL.cells
        have BV := Lib.hid (bchain HB.out HBr.out)
        clear xL
        by_cases hlt : n2 < L.exits.length
        · obtain ⟨es, hes, hAt, hSl⟩ := HL.out.exits
          have hlen : es.length = L.exits.length := by rw [← hes, List.length_map]
          obtain ⟨b, off, hAe, hrow⟩ := hAt.get (j := n2) (by omega)
          dsimp only at hAe
          subst hAe
          obtain ⟨y, hy⟩ : ∃ y, es[n2]? = some y := ⟨es[n2]'(by omega), List.getElem?_eq_getElem (by omega)⟩
          obtain ⟨x, v⟩ := y
          have hx : L.exits[n2]? = some x := by rw [← hes, List.getElem?_map, hy]; rfl
          have k0 : V.cell? ⟨b, off + n2 * 3, none⟩ = some (.int .i64 x.s) := (hrow.below BV.out).2 n2 _ hy 0 _ rfl
          have k1 : V.cell? ⟨b, off + n2 * 3 + 1, none⟩ = some (.int .i64 x.p) := (hrow.below BV.out).2 n2 _ hy 1 _ rfl
          have k2 : V.cell? ⟨b, off + n2 * 3 + 2, none⟩ = some v := (hrow.below BV.out).2 n2 _ hy 2 _ rfl
          have lb : b < V.heap.size := (hrow.below BV.out).1
          have hsl : Sl w 3 Stp.enc v x.over := hSl _ (List.mem_of_getElem? hy)
          have h3 := fun w1 hw => H3.out x v w1 hw hsl
          obtain ⟨A, cap, rfl, _, _, _⟩ := hsl
          clear hy hSl hAt hes hlen
          have hrf := HR.out.2.2.1 n2 x hx
          have next : exitR L x = true → Hid (∀ (j : Nat) (y : Ext'), j < n2 + 1 → L.exits[j]? = some y → exitR L y = true) := fun h => Lib.hid fun j y hj hy => by
            by_cases e : j = n2
            · subst e
              rw [hx] at hy
              cases hy
              exact h
            · exact HJ.out j y (by omega) hy
          generalize exitR L x = sb at h3 hrf next
          have H5 := Lib.hid h3
          have NX := Lib.hid next
          clear h3 next hx hrow
          go_wp2_with fail
          refine wp_region_ext (by kernel_rfl) (by kernel_rfl) fun hx => ?_
          repeat (go_big_quiet_step ((go_at_call 34; exact Calls.ext (H5.out _ (bchain BV.out (Ext.below _))))))
          refine wpQuiet_nil ?_
          intro w5 b5
          have HB5 := Lib.hid (bchain HBr.out b5)
          clear b5
          cases sb
          · obtain rfl := hrf rfl
            go_wp2
            go_ret
            exact ⟨rfl, bchain HB.out HB5.out⟩
          · go_wp2
            go_roundw
            case rel => exact ⟨n2 + 1, by omega, by go_num, NX.out (by simp), HB5⟩
            case measure => simp [intOf]; omega
        obtain rfl : n2 = L.exits.length := by omega
        have HJ2 := HJ
        go_wp2_with fail
        clear r0 r1 r2 r3 r4 r5 r6 r7 r8 r9 r10 hlt hn lw BV HJ
        obtain ⟨V2, rfl⟩ : ∃ V2 : World, V2 = V := ⟨_, rfl⟩
        have HBs2 := HBr
        clear HBr
        go_loopw [6] (fun c wr => ∃ n : Nat, n ≤ L.flanks.length ∧ c = .int .i64 n ∧ Hid (∀ (j : Nat) (y : Flk), j < n → L.flanks[j]? = some y → flankT L y = true) ∧ Hid (Below Y.heap.size Y wr)) (fun c _ => L.flanks.length - (intOf c).toNat)
        case atStart => exact ⟨0, Nat.zero_le _, rfl, Lib.hid (fun j y hj => absurd hj (Nat.not_lt_zero _)), HBs2⟩
        case round =>
          obtain ⟨n3, hn, rfl, HJ, HBr⟩ := hrel
          obtain ⟨V, rfl⟩ : ∃ V : World, V = wr := ⟨_, rfl⟩
          have xL := HX.out.below HBr.out
          have lw := xL.1
          obtain ⟨r0, r1, r2, r3, r4, r5, r6, r7, r8, r9, r10⟩ := xL.cells
          have BV := Lib.hid (bchain HB.out HBr.out)
          clear xL
          by_cases hlt : n3 < L.flanks.length
          · obtain ⟨b, off, hAe, hrow⟩ := HL.out.flanks.get hlt
            dsimp only at hAe
            subst hAe
            obtain ⟨x, hx⟩ : ∃ x, L.flanks[n3]? = some x := ⟨L.flanks[n3], List.getElem?_eq_getElem hlt⟩
            have k0 : V.cell? ⟨b, off + n3 * 4, none⟩ = some (.int .i64 x.s) := (hrow.below BV.out).2 n3 x hx 0 _ rfl
            have k1 : V.cell? ⟨b, off + n3 * 4 + 1, none⟩ = some (.int .i64 x.way) := (hrow.below BV.out).2 n3 x hx 1 _ rfl
            have k2 : V.cell? ⟨b, off + n3 * 4 + 2, none⟩ = some (.int .i64 x.pt) := (hrow.below BV.out).2 n3 x hx 2 _ rfl
            have k3 : V.cell? ⟨b, off + n3 * 4 + 3, none⟩ = some (.int .i64 x.pos) := (hrow.below BV.out).2 n3 x hx 3 _ rfl
            have lb : b < V.heap.size := (hrow.below BV.out).1
            have h3 := fun w1 hw => H4.out x w1 hw
            unfold Flk.enc at h3
            have hrf := HR.out.2.2.2.1 n3 x hx
            have next : flankT L x = true → Hid (∀ (j : Nat) (y : Flk), j < n3 + 1 → L.flanks[j]? = some y → flankT L y = true) := fun h => Lib.hid fun j y hj hy => by
              by_cases e : j = n3
              · subst e
                rw [hx] at hy
                cases hy
                exact h
              · exact HJ.out j y (by omega) hy
            generalize flankT L x = sb at h3 hrf next
            have H5 := Lib.hid h3
            have NX := Lib.hid next
            clear h3 next hx hrow
            go_wp2_with fail
            refine wp_region_ext (by kernel_rfl) (by kernel_rfl) fun hx => ?_
            repeat (go_big_quiet_step ((go_at_call 35; exact Calls.ext (H5.out _ (bchain BV.out (Ext.below _))))))
            refine wpQuiet_nil ?_
            intro w5 b5
            have HB5 := Lib.hid (bchain HBr.out b5)
            clear b5
            cases sb
            · obtain rfl := hrf rfl
              go_wp2
              go_ret
              exact ⟨rfl, bchain HB.out HB5.out⟩
            · go_wp2
              go_roundw
              case rel => exact ⟨n3 + 1, by omega, by go_num, NX.out (by simp), HB5⟩
              case measure => simp [intOf]; omega
          obtain rfl : n3 = L.flanks.length := by omega
          have HJ3 := HJ
          have HRV := Lib.hid (HR.out.2.2.2.2 HJ0.out HJ1.out HJ2.out HJ3.out)
          have fin : ∀ (b0 b1 b2 b3 : Bool), decide ((L.secs.length : Int) ≤ 24) = b0 → decide ((L.sigs.length : Int) ≤ 12) = b1 → decide ((L.exits.length : Int) ≤ 12) = b2 → decide ((L.flanks.length : Int) ≤ 16) = b3 →
              (decide (L.secs.length ≤ 24) && decide (L.sigs.length ≤ 12) && decide (L.exits.length ≤ 12) && decide (L.flanks.length ≤ 16) && tt) = (b0 && b1 && b2 && b3 && tt) := by
            intro b0 b1 b2 b3 e0 e1 e2 e3
            rw [← e0, ← e1, ← e2, ← e3]
            congr 1
            have c (n m : Nat) : decide ((n : Int) ≤ m) = decide (n ≤ m) := by rw [decide_eq_decide]; omega
            have c0 := c L.secs.length 24
            have c1 := c L.sigs.length 12
            have c2 := c L.exits.length 12
            have c3 := c L.flanks.length 16
            simp only [Int.cast_ofNat_Int] at c0 c1 c2 c3
            rw [c0, c1, c2, c3]
          have FIN := Lib.hid fin
          clear fin HR HJ0 HJ1 HJ2 HJ3 HJ
          cases d0 : decide ((L.secs.length : Int) ≤ 24)
          case false =>
            go_wp2
            go_ret
            exact ⟨ret_bool (by rw [HRV.out, FIN.out _ _ _ _ d0 rfl rfl rfl]; simp), BV.out⟩
          cases d1 : decide ((L.sigs.length : Int) ≤ 12)
          case false =>
            go_wp2
            go_ret
            exact ⟨ret_bool (by rw [HRV.out, FIN.out _ _ _ _ d0 d1 rfl rfl]; simp), BV.out⟩
          cases d2 : decide ((L.exits.length : Int) ≤ 12)
          case false =>
            go_wp2
            go_ret
            exact ⟨ret_bool (by rw [HRV.out, FIN.out _ _ _ _ d0 d1 d2 rfl]; simp), BV.out⟩
          cases d3 : decide ((L.flanks.length : Int) ≤ 16)
          case false =>
            go_wp2
            go_ret
            exact ⟨ret_bool (by rw [HRV.out, FIN.out _ _ _ _ d0 d1 d2 d3]; simp), BV.out⟩
          go_wp2_with fail
          (with_reducible refine (H6.out _).mono ?_)
          rintro e w1 ⟨rfl, b1⟩
          go_wp2
          go_ret
          exact ⟨ret_bool (by rw [HRV.out, FIN.out _ _ _ _ d0 d1 d2 d3]; simp), bchain BV.out b1⟩
end Go.Proofs.YtmnkgnoljllnnaaDoor
