/-
  A region whose last operations wait for all the others: the others go in whatever order, under a condition S of their own; then the last ones in the order of the text.
-/
import Derived.StillTail
import Derived.Deep.RegionHeld3
namespace Go.Proofs.YtkphihbimdffjaaDoor

section
variable {P : Program} {ops : Array Oper} {Q : Exit → Act → World → Prop} {md : Region.Mode}

theorem wpAny_more : ∀ (f : Nat) (listed : Array Bool) (a : Act) (w : World), wpAny P md ops Q f listed a w → wpAny P md ops Q (f + 1) listed a w
  | 0, _, _, _, h => ⟨fun _ => h.2, fun i hi => by rw [h.1] at hi; cases hi⟩
  | f + 1, _, _, _, h => ⟨h.1, fun i hi => wpOp_mono (fun a' w' h' => wpAny_more f _ a' w' h') (h.2 i hi)⟩
theorem wpAny_pad (f : Nat) (listed : Array Bool) (a : Act) (w : World) (h : wpAny P md ops Q f listed a w) : ∀ d : Nat, wpAny P md ops Q (d + f) listed a w
  | 0 => by rw [Nat.zero_add]; exact h
  | d + 1 => by rw [show d + 1 + f = d + f + 1 by omega]; exact wpAny_more _ _ _ _ (wpAny_pad f listed a w h d)

/-- The post of the head: at its end the tail goes. -/
def headPost (P : Program) (ops : Array Oper) (tl : List Oper) (Q : Exit → Act → World → Prop) : Exit → Act → World → Prop
  | .normal, a, w => wpList P ops Q tl a w
  | e, a, w => Q e a w

/-- The head's operations wait for earlier ones, and are guarded by the head's. -/
def headB (md : Region.Mode) (ops : Array Oper) (n : Nat) : Bool :=
  (List.range n).all fun i => match ops[i]? with
    | none => false
    | some o => o.after.all (fun e => !Region.binds md e || decide (e.on < i)) && (match o.guard with | none => true | some (j, _) => decide (j < n))
theorem headB_spec {n i : Nat} (h : headB md ops n = true) (hi : i < n) : ∃ o, ops[i]? = some o ∧ (∀ e ∈ o.after, Region.binds md e = true → e.on < i) ∧ (∀ j b, o.guard = some (j, b) → j < n) := by
  have h1 := List.all_eq_true.1 h i (List.mem_range.2 hi)
  revert h1
  cases ho : ops[i]? with
  | none => intro h1; cases h1
  | some o =>
    intro h1
    simp only [Bool.and_eq_true] at h1
    refine ⟨o, rfl, fun e he hb => ?_, fun j b hg => ?_⟩
    · have h2 := Array.all_eq_true'.1 h1.1 e he
      simpa [hb] using h2
    · have h2 := h1.2
      rw [hg] at h2
      simpa using h2

theorem oper_wp_post {o : Oper} {a : Act} {w : World} {K : Act → World → Prop} {tl : List Oper} (h : o.wp P a w K (headPost P ops tl Q)) : o.wp P a w K Q := by
  unfold Oper.wp at *
  generalize (execOp a.eval o).run P w = r at *
  cases r with
  | ok n w' =>
    cases n <;> simp only [Oper.upon] at h ⊢ <;>
      first
        | exact h
        | exact Calls.mono h (fun e w'' he => by cases e <;> exact he)
  | halt x w' => cases x <;> simp only [Oper.upon] at h ⊢ <;> exact h
theorem letsOut_post {tl : List Oper} (h : LetsOut (headPost P ops tl Q)) : LetsOut Q := h

theorem wpOp_head {hd tl : List Oper} {i : Nat} {K K' : Act → World → Prop} {a : Act} {w : World} (hB : headB md (hd ++ tl).toArray hd.length = true) (hi : i < hd.length) (hK : ∀ a w, K a w → K' a w)
    (h : wpOp P hd.toArray (headPost P (hd ++ tl).toArray tl Q) i K a w) : wpOp P (hd ++ tl).toArray Q i K' a w := by
  obtain ⟨o, ho, _, hg⟩ := headB_spec hB hi
  have ho' : hd.toArray[i]? = some o := by
    simpa [List.getElem?_append_left hi] using ho
  refine wpOp_mono hK ?_
  unfold wpOp at *
  simp only [ho] at ⊢
  simp only [ho'] at h
  have hw : Region.wanted o (yielded (hd ++ tl).toArray a.tmps) = Region.wanted o (yielded hd.toArray a.tmps) := by
    unfold Region.wanted
    cases hgo : o.guard with
    | none => rfl
    | some p =>
      obtain ⟨j, b⟩ := p
      have hj := hg j b hgo
      have e : (hd ++ tl).toArray[j]? = hd.toArray[j]? := by simp [List.getElem?_append_left hj]
      simp only [yielded, e]
  rw [hw]
  split
  · rename_i hw
    simp only [hw, if_true] at h
    exact h.imp oper_wp_post (fun h => ⟨h.1, letsOut_post h.2⟩)
  · rename_i hw
    simp only [hw] at h
    exact h

theorem getD_of {xs ys : Array Bool} {i : Nat} {d : Bool} (h : xs[i]? = ys[i]?) : xs.getD i d = ys.getD i d := by
  simp only [Array.getD_eq_getD_getElem?, h]

theorem ready_head {hd tl : List Oper} {lh listed : Array Bool} {i : Nat} (hB : headB md (hd ++ tl).toArray hd.length = true) (hi : i < hd.length)
    (hr : ∀ j, j < hd.length → lh[j]? = listed[j]?) : i ∈ Region.ready md (hd ++ tl).toArray listed ↔ i ∈ Region.ready md hd.toArray lh := by
  obtain ⟨o, ho, he, _⟩ := headB_spec hB hi
  have ho' : hd.toArray[i]? = some o := by
    simpa [List.getElem?_append_left hi] using ho
  rw [mem_ready, mem_ready, getD_of (hr i hi)]
  constructor
  · rintro ⟨h1, o1, h2, h3⟩
    obtain rfl : o1 = o := Option.some.inj (h2.symm.trans ho)
    exact ⟨h1, o1, ho', fun e h4 hb => (getD_of (hr e.on (by have := he e h4 hb; omega))).trans (h3 e h4 hb)⟩
  · rintro ⟨h1, o1, h2, h3⟩
    obtain rfl : o1 = o := Option.some.inj (h2.symm.trans ho')
    exact ⟨h1, o1, ho, fun e h4 hb => (getD_of (hr e.on (by have := he e h4 hb; omega))).symm.trans (h3 e h4 hb)⟩

/-- Some operation of the head is left: then one may come up. -/
theorem ready_some {n : Nat} {listed : Array Bool} (hB : headB md ops n = true) (hn : n ≤ listed.size) : ∀ (i : Nat), i < n → listed.getD i true = false → ∃ j, j < n ∧ j ∈ Region.ready md ops listed := by
  intro i
  induction i using Nat.strongRecOn with
  | _ i ih =>
    intro hi hu
    obtain ⟨o, ho, he, _⟩ := headB_spec hB hi
    by_cases h : ∀ e ∈ o.after, Region.binds md e = true → listed.getD e.on false = true
    · exact ⟨i, hi, mem_ready.2 ⟨hu, o, ho, h⟩⟩
    · simp only [Classical.not_forall] at h
      obtain ⟨e, he1, hb, h⟩ := h
      have hlt := he e he1 hb
      exact ih e.on hlt (by omega) (getD_in (by omega) (by simpa using h))

/-- The head, then the tail. -/
theorem wpAny_split {hd tl : List Oper} (hB : headB md (hd ++ tl).toArray hd.length = true) (hs : Region.sinkB md (hd ++ tl).toArray hd.length = true) (hc : Region.chainB md (hd ++ tl).toArray hd.length = true) (ht : 0 < tl.length)
    (hq : Region.seqB md (hd ++ tl).toArray tl.length hd.length (List.replicate hd.length true ++ List.replicate tl.length false).toArray = true) :
    ∀ (f : Nat) (lh listed : Array Bool) (a : Act) (w : World), HeadInv md (hd ++ tl).toArray hd.length listed → (∀ j, j < hd.length → lh[j]? = listed[j]?) →
      wpAny P md hd.toArray (headPost P (hd ++ tl).toArray tl Q) f lh a w → wpAny P md (hd ++ tl).toArray Q (f + tl.length) listed a w := by
  have hsz : (hd ++ tl).toArray.size = hd.length + tl.length := by simp
  have done : ∀ (f : Nat) (lh listed : Array Bool) (a : Act) (w : World), HeadInv md (hd ++ tl).toArray hd.length listed → (∀ j, j < hd.length → lh[j]? = listed[j]?) → Region.ready md hd.toArray lh = [] →
      wpList P (hd ++ tl).toArray Q tl a w → wpAny P md (hd ++ tl).toArray Q (f + tl.length) listed a w := by
    intro f lh listed a w inv hr h0 h
    have hall : ∀ i, i < hd.length → listed.getD i true = true := fun i hi => by
      cases hx : listed.getD i true with
      | true => rfl
      | false =>
        obtain ⟨j, hj, hjr⟩ := ready_some hB (by rw [inv.size, hsz]; omega) i hi hx
        have := (ready_head hB hj hr).1 hjr
        rw [h0] at this
        cases this
    have hl : listed = (List.replicate hd.length true ++ List.replicate tl.length false).toArray := by
      apply Array.ext
      · simp [inv.size]
      · intro i h1 h2
        rcases Nat.lt_or_ge i hd.length with hi | hi
        · have := hall i hi
          rw [Array.getD_eq_getD_getElem?, Array.getElem?_eq_getElem h1] at this
          simpa [List.getElem_append, hi] using this
        · have hi' : i < hd.length + tl.length := by rw [inv.size, hsz] at h1; exact h1
          have := inv.tail i hi (by rw [hsz]; exact hi')
          rw [Array.getD_eq_getD_getElem?, Array.getElem?_eq_getElem h1] at this
          simpa [List.getElem_append, Nat.not_lt.2 hi] using this
    refine wpAny_pad _ _ _ _ ?_ f
    refine wpAny_of_seq tl hd.length listed a w (fun j => by rw [List.getElem?_toArray, List.getElem?_append_right (Nat.le_add_right _ _), Nat.add_sub_cancel_left]) ?_ h
    rw [hl]
    exact hq
  intro f
  induction f with
  | zero => exact fun lh listed a w inv hr h => done 0 lh listed a w inv hr h.1 h.2
  | succ f ih =>
    intro lh listed a w inv hr h
    by_cases h0 : Region.ready md hd.toArray lh = []
    · exact done (f + 1) lh listed a w inv hr h0 (h.1 h0)
    · obtain ⟨i0, hi0⟩ := List.exists_mem_of_ne_nil _ h0
      have hlt0 : i0 < hd.length := by
        obtain ⟨_, o, ho, _⟩ := mem_ready.1 hi0
        simpa using (Array.getElem?_eq_some_iff.1 ho).1
      have hu0 : listed.getD i0 true = false := (getD_of (hr i0 hlt0)).symm.trans (mem_ready.1 hi0).1
      rw [show f + 1 + tl.length = f + tl.length + 1 by omega]
      refine ⟨fun h1 => ?_, fun i hi => ?_⟩
      · have := (ready_head hB hlt0 hr).2 hi0
        rw [h1] at this
        cases this
      · have hin : i < hd.length := by
          rcases Nat.lt_or_ge i hd.length with h | h
          · exact h
          · exact absurd hi (tail_waits hs hc (by rw [hsz]; omega) inv _ i0 rfl hlt0 hu0 i h)
        refine wpOp_head hB hin (fun a' w' h' => ih _ _ a' w' (inv.set hi hin) (fun j hj => ?_) h') (h.2 i ((ready_head hB hin hr).1 hi))
        have hs1 : lh.size = lh.size := rfl
        by_cases hij : i = j
        · subst hij
          have e := hr i hin
          have hlt : i < listed.size := by rw [inv.size, hsz]; omega
          have hlt' : i < lh.size := by
            rcases Nat.lt_or_ge i lh.size with h | h
            · exact h
            · rw [Array.getElem?_eq_none h, Array.getElem?_eq_getElem hlt] at e
              cases e
          simp [hlt, hlt']
        · rw [Array.getElem?_setIfInBounds_ne hij, Array.getElem?_setIfInBounds_ne hij]
          exact hr j hj

/-- A region that draws: its first n operations in whatever order, under S; then the others, which wait for them, in the text's order. -/
theorem wp_region_head {id : Nat} {a : Act} {w : World} {l : List Oper} (n : Nat) (S : World → Prop) (hm : P.follows .mixedOrders = true) (hn : decide (n < l.length) = true)
    (hB : headB .any (l.take n ++ l.drop n).toArray (l.take n).length = true) (hs : Region.sinkB .any (l.take n ++ l.drop n).toArray (l.take n).length = true) (hc : Region.chainB .any (l.take n ++ l.drop n).toArray (l.take n).length = true)
    (hq : Region.seqB .any (l.take n ++ l.drop n).toArray (l.drop n).length (l.take n).length (List.replicate (l.take n).length true ++ List.replicate (l.drop n).length false).toArray = true)
    (hS : S w.drew) (h : S w.drew → wpAnyH P .any (l.take n).toArray (headPost P l.toArray (l.drop n) Q) S n (Array.replicate n false) a w.drew) : (Code.region id l.toArray true).wp P Q a w := by
  have hn' : n < l.length := by simpa using hn
  have e : l.take n ++ l.drop n = l := List.take_append_drop n l
  refine wp_region_any hm ?_
  have H := wpAny_split (P := P) (Q := Q) hB hs hc (by simp; omega) hq n (Array.replicate n false) (Array.replicate l.toArray.size false) a w.drew
    ⟨by rw [e]; simp, fun j oj _ hl => (by rw [getD_replicate_false] at hl; cases hl), fun t _ ht => getD_in (by rw [e] at ht; simpa using ht) (getD_replicate_false _ _)⟩
    (fun j hj => by
      have : j < n := by simp at hj; omega
      simp [this, show j < l.length by omega])
    (by rw [e]; exact wpAny_of_held _ _ _ _ (h hS))
  have hl : n + (l.drop n).length = l.toArray.size := by simp; omega
  rw [hl, e] at H
  exact H
end
end Go.Proofs.YtkphihbimdffjaaDoor
