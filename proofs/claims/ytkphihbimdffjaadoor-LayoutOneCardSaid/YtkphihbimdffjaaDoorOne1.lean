/-
  A layout in rows of one's own (as the document's Own lays it): one cell set, one element more.
-/
import Derived.Test.YtkphihbimdffjaaDoorOPlain
import Derived.Test.YtkphihbimdffjaaDoorClone
import Derived.Test.YtkphihbimdffjaaDoorBoxes
namespace Go.Proofs.YtkphihbimdffjaaDoor
open Go.RowKit Go.Shelf

theorem owns_below {W W' : World} {base : Nat} {e : TypeId} {size : Nat} {v : Value} {n : Nat} {xs : List Value} (h : W.ownsRow base e size v n xs) (k : Below W.heap.size W W') : W'.ownsRow base e size v n xs := by
  refine ⟨h.1, ?_⟩
  rcases h.2 with hn | ⟨g, cap, cur, e, hb, hgg, rest⟩
  · exact .inl hn
  · exact .inr ⟨g, cap, cur, e, hb, (k.block g (Array.getElem?_eq_some_iff.1 hgg).1).trans hgg, rest⟩
theorem owns_base {W : World} {base base' : Nat} {e : TypeId} {size : Nat} {v : Value} {n : Nat} {xs : List Value} (h : W.ownsRow base e size v n xs) (k : base' ≤ base) : W.ownsRow base' e size v n xs := by
  refine ⟨h.1, ?_⟩
  rcases h.2 with hn | ⟨g, cap, cur, e, hb, hgg, rest⟩
  · exact .inl hn
  · exact .inr ⟨g, cap, cur, e, Nat.le_trans k hb, hgg, rest⟩
/-- A world in which no row of elements e but those of block g is other than it was. -/
theorem owns_kept {W W' : World} {g base : Nat} {e : TypeId} {size : Nat} {v : Value} {n : Nat} {xs : List Value} (h : W.ownsRow base e size v n xs) (hk : ∀ k, k < W.heap.size → k ≠ g → W'.heap[k]? = W.heap[k]?) (hp : ∀ cur, W.heap[g]? ≠ some (.cells cur e (0, 0))) : W'.ownsRow base e size v n xs := by
  refine ⟨h.1, ?_⟩
  rcases h.2 with hn | ⟨g', cap, cur, e1, hb, hg, rest⟩
  · exact .inl hn
  · exact .inr ⟨g', cap, cur, e1, hb, (hk g' (Array.getElem?_eq_some_iff.1 hg).1 (fun h => hp cur (h ▸ hg))).trans hg, rest⟩
theorem owns_set {W : World} {base : Nat} {e : TypeId} {size g n cap i : Nat} {xs : List Value} (u : Value) (h : W.ownsRow base e size (.slice (some ⟨g, 0, none⟩) n cap) n xs) : (W.setCell ⟨g, i, none⟩ u).ownsRow base e size (.slice (some ⟨g, 0, none⟩) n cap) n (xs.set i u) := by
  rcases h.2 with ⟨h, _⟩ | ⟨g', cap', cur, e1, hb, hg, h1, h2, h3, h4⟩
  · cases h
  · cases e1
    refine ⟨by simpa using h.1, .inr ⟨g, cap, cur.setIfInBounds i u, rfl, hb, heap_setCell_same _ _ _ _ _ _ hg, h1, h2, by simpa using h3, ?_⟩⟩
    rw [Array.toList_setIfInBounds, List.take_set, h4]
theorem owns_heap {W : World} {base : Nat} {e : TypeId} {size n cap : Nat} {A : Option Addr} {xs : List Value} (h : W.ownsRow base e size (.slice A n cap) n xs) (hn : 0 < n) : ∃ g cur, A = some ⟨g, 0, none⟩ ∧ base ≤ g ∧ W.heap[g]? = some (.cells cur e (0, 0)) ∧ cap ≤ maxLen ∧ n ≤ cap := by
  rcases h.2 with ⟨_, h⟩ | ⟨g, cap', cur, e1, hb, hg, h1, h2, _⟩
  · omega
  · cases e1
    exact ⟨g, cur, rfl, hb, hg, h2, h1⟩
theorem flat_set {α : Type} {enc : α → List Value} {k : Nat} (hk : ∀ x, (enc x).length = k) : ∀ (xs : List α) (j o : Nat) (x y : α) (u : Value), xs[j]? = some x → o < k → enc y = (enc x).set o u → (xs.set j y).flatMap enc = (xs.flatMap enc).set (j * k + o) u
  | [], _, _, _, _, _, h, _, _ => by simp at h
  | z :: xs, 0, o, x, y, u, h, ho, e => by
    obtain rfl : z = x := by simpa using h
    rw [List.set_cons_zero, List.flatMap_cons, List.flatMap_cons, e, List.set_append_left _ _ (by rw [hk]; omega)]
    simp
  | z :: xs, j + 1, o, x, y, u, h, ho, e => by
    rw [List.set_cons_succ, List.flatMap_cons, List.flatMap_cons, List.set_append_right _ _ (by rw [hk, Nat.add_mul]; omega), hk, flat_set hk xs j o x y u (by simpa using h) ho e]
    congr 2
    rw [Nat.add_mul]
    omega

/-- A layout whose slices are rows of one's own. -/
structure Owned (B : Nat) (W : World) (p : Where) (L : Lay) (es : List (Ext' × Value)) : Prop where
  secs : W.ownsRow B 39 11 (.slice p.a0 L.secs.length p.c0) L.secs.length (L.secs.flatMap Sec.enc)
  sigs : W.ownsRow B 50 2 (.slice p.a1 L.sigs.length p.c1) L.sigs.length (L.sigs.flatMap Prt.enc)
  exits : W.ownsRow B 53 3 (.slice p.a2 L.exits.length p.c2) L.exits.length (es.flatMap Ext'.enc)
  flanks : W.ownsRow B 55 4 (.slice p.a3 L.flanks.length p.c3) L.flanks.length (L.flanks.flatMap Flk.enc)
  heads : es.map (·.1) = L.exits
  overs : ∀ t ∈ es, W.ownsRow B 33 3 t.2 t.1.over.length (t.1.over.flatMap Stp.enc)
  kinds : ∀ c ∈ L.secs, 0 ≤ c.k ∧ c.k ≤ 255
theorem sl_get {α : Type} {W : World} {k n c : Nat} {enc : α → List Value} {A : Option Addr} {xs : List α} (h : Sl W k enc (.slice A n c) xs) : At W k enc A xs ∧ (xs.length ≤ c ∧ c ≤ 9223372036854775807) := by
  obtain ⟨A', c', e, h1, h2, h3⟩ := h
  cases e
  exact ⟨h3, h1, h2⟩
theorem Owned.lay {B : Nat} {W : World} {p : Where} {L : Lay} {es : List (Ext' × Value)} (h : Owned B W p L es) : LayAt W p L := by
  have h0 := sl_get (at_of_row (k := 11) (fun _ => rfl) (by decide) h.secs)
  have h1 := sl_get (at_of_row (k := 2) (fun _ => rfl) (by decide) h.sigs)
  have h3 := sl_get (at_of_row (k := 4) (fun _ => rfl) (by decide) h.flanks)
  have hl : L.exits.length = es.length := by rw [← h.heads, List.length_map]
  have h2 := sl_get (at_of_row (k := 3) (xs := es) (fun _ => rfl) (by decide) (by have := h.exits; rw [hl] at this; exact this))
  exact ⟨h0.1, h1.1, ⟨es, h.heads, h2.1, fun t ht => at_of_row (k := 3) (fun _ => rfl) (by decide) (h.overs t ht)⟩, h3.1, h0.2, h1.2, by rw [hl]; exact h2.2, h3.2, h.kinds⟩
theorem Owned.below {B : Nat} {W W' : World} {p : Where} {L : Lay} {es : List (Ext' × Value)} (h : Owned B W p L es) (k : Below W.heap.size W W') : Owned B W' p L es :=
  ⟨owns_below h.secs k, owns_below h.sigs k, owns_below h.exits k, owns_below h.flanks k, h.heads, fun t ht => owns_below (h.overs t ht) k, h.kinds⟩
theorem Owned.base {B B' : Nat} {W : World} {p : Where} {L : Lay} {es : List (Ext' × Value)} (h : Owned B W p L es) (hb : B' ≤ B) : Owned B' W p L es :=
  ⟨owns_base h.secs hb, owns_base h.sigs hb, owns_base h.exits hb, owns_base h.flanks hb, h.heads, fun t ht => owns_base (h.overs t ht) hb, h.kinds⟩
/-- Another block is other than it was: one that is no row of these elements. -/
theorem Owned.kept {B g : Nat} {W W' : World} {p : Where} {L : Lay} {es : List (Ext' × Value)} (h : Owned B W p L es) (hk : ∀ k, k < W.heap.size → k ≠ g → W'.heap[k]? = W.heap[k]?) {c : Array Value} {e : TypeId} (hg : W.heap[g]? = some (.cells c e (0, 0)))
    (h0 : e ≠ 39) (h1 : e ≠ 50) (h2 : e ≠ 53) (h3 : e ≠ 55) (h4 : e ≠ 33) : Owned B W' p L es := by
  have hp : ∀ (e' : TypeId), e ≠ e' → ∀ cur, W.heap[g]? ≠ some (.cells cur e' (0, 0)) := fun e' hn cur hc => by rw [hg] at hc; cases hc; exact hn rfl
  exact ⟨owns_kept h.secs hk (hp _ h0), owns_kept h.sigs hk (hp _ h1), owns_kept h.exits hk (hp _ h2), owns_kept h.flanks hk (hp _ h3), h.heads, fun t ht => owns_kept (h.overs t ht) hk (hp _ h4), h.kinds⟩
theorem set_others (W : World) (p : Addr) (u : Value) : ∀ k, k < W.heap.size → k ≠ p.block → (W.setCell p u).heap[k]? = W.heap[k]? := fun _ _ hk => Below.heap_setCell _ _ _ _ hk
/-- One cell of a section set. -/
theorem Owned.set {B g a o : Nat} {W : World} {p : Where} {L : Lay} {es : List (Ext' × Value)} {c c' : Sec} {u : Value} (h : Owned B W p L es) (hp : p.a0 = some ⟨g, 0, none⟩) (hc : L.secs[a]? = some c) (ho : o < 11) (he : c'.enc = c.enc.set o u) (hk : 0 ≤ c'.k ∧ c'.k ≤ 255) :
    Owned B (W.setCell ⟨g, a * 11 + o, none⟩ u) p (setS L a c') es := by
  have hn : 0 < L.secs.length := by have := (List.getElem?_eq_some_iff.1 hc).1; omega
  obtain ⟨g', cur, e, _, hg, _⟩ := owns_heap h.secs hn
  rw [hp] at e
  obtain rfl : g = g' := by cases e; rfl
  have hr := h.secs
  rw [hp] at hr
  have hq : ∀ (e' : TypeId), 39 ≠ e' → ∀ cur, W.heap[g]? ≠ some (.cells cur e' (0, 0)) := fun e' hn cur hc => by rw [hg] at hc; cases hc; exact hn rfl
  have hs := set_others W ⟨g, a * 11 + o, none⟩ u
  refine ⟨?_, owns_kept h.sigs hs (hq _ (by decide)), owns_kept h.exits hs (hq _ (by decide)), owns_kept h.flanks hs (hq _ (by decide)), h.heads, fun t ht => owns_kept (h.overs t ht) hs (hq _ (by decide)), fun x hx => ?_⟩
  · rw [hp]
    show (W.setCell ⟨g, a * 11 + o, none⟩ u).ownsRow B _ 11 (.slice _ (L.secs.set a c').length _) (L.secs.set a c').length ((L.secs.set a c').flatMap Sec.enc)
    rw [List.length_set, flat_set (k := 11) (fun _ => rfl) L.secs a o c c' u hc ho he]
    exact owns_set u hr
  · rcases List.mem_or_eq_of_mem_set hx with hx | rfl
    · exact h.kinds x hx
    · exact hk
/-- An append to one of the rows. -/
theorem grown_others {W W' : World} {v : Value} (h : W.grownBy W' v.ownBlock) {g : Nat} (hv : ∀ k, v.ownBlock = some k → k = g) : ∀ k, k < W.heap.size → k ≠ g → W'.heap[k]? = W.heap[k]? :=
  fun k hk hn => h.block k hk fun e => hn (hv k e.symm)
theorem owns_grown {W W' : World} {base : Nat} {e e' : TypeId} {size size' : Nat} {v v' : Value} {n n' : Nat} {xs xs' : List Value} (h : W.ownsRow base e size v n xs) (h' : W.ownsRow base e' size' v' n' xs') (k : W.grownBy W' v'.ownBlock) (hn : e' ≠ e) : W'.ownsRow base e size v n xs := by
  refine ⟨h.1, ?_⟩
  rcases h.2 with hn | ⟨g, cap, cur, e1, hb, hg, rest⟩
  · exact .inl hn
  · refine .inr ⟨g, cap, cur, e1, hb, (k.block g (Array.getElem?_eq_some_iff.1 hg).1 fun he => ?_).trans hg, rest⟩
    rcases h'.2 with ⟨rfl, _⟩ | ⟨g', cap', cur', rfl, _, hg', _⟩
    · cases he
    · obtain rfl : g = g' := by simpa [Value.ownBlock] using he
      rw [hg] at hg'
      cases hg'
      exact hn rfl
theorem Owned.addG {B n' c' : Nat} {A' : Option Addr} {W W' : World} {p : Where} {L : Lay} {es : List (Ext' × Value)} {x : Prt} (h : Owned B W p L es) (k : W.grownBy W' (Value.slice p.a1 L.sigs.length p.c1).ownBlock) (hr : W'.ownsRow B 50 2 (.slice A' n' c') (L.sigs.length + 1) (L.sigs.flatMap Prt.enc ++ [x].flatMap Prt.enc)) :
    n' = L.sigs.length + 1 ∧ Owned B W' ⟨p.a0, A', p.a2, p.a3, p.c0, c', p.c2, p.c3⟩ (addG L x) es := by
  have hn : n' = L.sigs.length + 1 := by
    rcases hr.2 with ⟨e, _⟩ | ⟨g, cap, cur, e, _⟩ <;> cases e
    · omega
    · rfl
  subst hn
  refine ⟨rfl, owns_grown h.secs h.sigs k (by decide), ?_, owns_grown h.exits h.sigs k (by decide), owns_grown h.flanks h.sigs k (by decide), h.heads, fun t ht => owns_grown (h.overs t ht) h.sigs k (by decide), h.kinds⟩
  show W'.ownsRow B _ 2 (.slice _ (L.sigs ++ [x]).length _) (L.sigs ++ [x]).length ((L.sigs ++ [x]).flatMap Prt.enc)
  rw [List.length_append, List.flatMap_append]
  exact hr
theorem Owned.addF {B n' c' : Nat} {A' : Option Addr} {W W' : World} {p : Where} {L : Lay} {es : List (Ext' × Value)} {x : Flk} (h : Owned B W p L es) (k : W.grownBy W' (Value.slice p.a3 L.flanks.length p.c3).ownBlock) (hr : W'.ownsRow B 55 4 (.slice A' n' c') (L.flanks.length + 1) (L.flanks.flatMap Flk.enc ++ [x].flatMap Flk.enc)) :
    n' = L.flanks.length + 1 ∧ Owned B W' ⟨p.a0, p.a1, p.a2, A', p.c0, p.c1, p.c2, c'⟩ (addF L x) es := by
  have hn : n' = L.flanks.length + 1 := by
    rcases hr.2 with ⟨e, _⟩ | ⟨g, cap, cur, e, _⟩ <;> cases e
    · omega
    · rfl
  subst hn
  refine ⟨rfl, owns_grown h.secs h.flanks k (by decide), owns_grown h.sigs h.flanks k (by decide), owns_grown h.exits h.flanks k (by decide), ?_, h.heads, fun t ht => owns_grown (h.overs t ht) h.flanks k (by decide), h.kinds⟩
  show W'.ownsRow B _ 4 (.slice _ (L.flanks ++ [x]).length _) (L.flanks ++ [x]).length ((L.flanks ++ [x]).flatMap Flk.enc)
  rw [List.length_append, List.flatMap_append]
  exact hr
/-- One exit more: its overlap is a slice v that holds it. -/
theorem Owned.addE {B n' c' : Nat} {A' : Option Addr} {W W' : World} {p : Where} {L : Lay} {es : List (Ext' × Value)} {x : Ext'} {v : Value} (h : Owned B W p L es) (k : W.grownBy W' (Value.slice p.a2 L.exits.length p.c2).ownBlock) (hr : W'.ownsRow B 53 3 (.slice A' n' c') (L.exits.length + 1) (es.flatMap Ext'.enc ++ [(x, v)].flatMap Ext'.enc)) (hv : W.ownsRow B 33 3 v x.over.length (x.over.flatMap Stp.enc)) :
    n' = L.exits.length + 1 ∧ Owned B W' ⟨p.a0, p.a1, A', p.a3, p.c0, p.c1, c', p.c3⟩ (addE L x) (es ++ [(x, v)]) := by
  have hn : n' = L.exits.length + 1 := by
    rcases hr.2 with ⟨e, _⟩ | ⟨g, cap, cur, e, _⟩ <;> cases e
    · omega
    · rfl
  subst hn
  refine ⟨rfl, owns_grown h.secs h.exits k (by decide), owns_grown h.sigs h.exits k (by decide), ?_, owns_grown h.flanks h.exits k (by decide), ?_, fun t ht => ?_, h.kinds⟩
  · show W'.ownsRow B _ 3 (.slice _ (L.exits ++ [x]).length _) (L.exits ++ [x]).length _
    rw [List.length_append, List.flatMap_append]
    exact hr
  · show _ = L.exits ++ [x]
    rw [List.map_append, h.heads]
    rfl
  · rcases List.mem_append.1 ht with ht | ht
    · exact owns_grown (h.overs t ht) h.exits k (by decide)
    · rw [List.mem_singleton.1 ht]
      exact owns_grown hv h.exits k (by decide)
end Go.Proofs.YtkphihbimdffjaaDoor
