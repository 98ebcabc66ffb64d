/-
  A drawn region inside a fence: its first operations in whatever order, told by relations; then the others, which wait for them, in the order of the text.
-/
import Derived.Test.YtkphihbimdffjaaDoorHead
import Derived.Test.YtkphihbimdffjaaDoorRelIn
import Derived.TacticsIn
namespace Go.Proofs.YtkphihbimdffjaaDoor
open Go.RowKit

section
variable {F : Fence} {N : Nat} {P : Program} {ops : Array Oper} {Q : Exit → Act → World → Prop} {md : Region.Mode}
theorem wpAnyIn_more : ∀ (f : Nat) (listed : Array Bool) (a : Act) (w : World), wpAnyIn F N P md ops Q f listed a w → wpAnyIn F N P md ops Q (f + 1) listed a w
  | 0, _, _, _, h => ⟨fun _ => h.2, fun i hi => by rw [h.1] at hi; cases hi⟩
  | f + 1, _, _, _, h => ⟨h.1, fun i hi => wpOpIn_mono (fun a' w' h' => wpAnyIn_more f _ a' w' h') (h.2 i hi)⟩
theorem wpAnyIn_pad (f : Nat) (listed : Array Bool) (a : Act) (w : World) (h : wpAnyIn F N P md ops Q f listed a w) : ∀ d : Nat, wpAnyIn F N P md ops Q (d + f) listed a w
  | 0 => by rw [Nat.zero_add]; exact h
  | d + 1 => by rw [show d + 1 + f = d + f + 1 by omega]; exact wpAnyIn_more _ _ _ _ (wpAnyIn_pad f listed a w h d)

/-- The post of the head: at its end the tail goes. -/
def headPostIn (F : Fence) (N : Nat) (P : Program) (ops : Array Oper) (tl : List Oper) (Q : Exit → Act → World → Prop) : Exit → Act → World → Prop
  | .normal, a, w => wpListIn F N P ops Q tl a w
  | e, a, w => Q e a w
theorem oper_wpIn_post {o : Oper} {a : Act} {w : World} {K : Act → World → Prop} {tl : List Oper} (h : o.wpIn F N P a w K (headPostIn F N P ops tl Q)) : o.wpIn F N P a w K Q := by
  unfold Oper.wpIn at *
  refine ⟨h.1, ?_⟩
  have h := h.2
  generalize (o.semAt F.round a.eval).run P w = r at *
  cases r with
  | ok n w' =>
    cases n <;> simp only [Oper.uponIn] at h ⊢ <;>
      first
        | exact h
        | exact ⟨h.1, CallsIn.mono h.2 (fun e w'' he => by cases e <;> exact he)⟩
        | exact ⟨h.1, RoundIn.mono h.2 (fun e w'' he => by cases e <;> exact he)⟩
  | halt x w' => cases x <;> simp only [Oper.uponIn] at h ⊢ <;> exact h
theorem wpAnyIn_of_seq {Q' : Exit → Act → World → Prop} : ∀ (l : List Oper) (k : Nat) (listed : Array Bool) (a : Act) (w : World), (∀ j, l[j]? = ops[k + j]?) →
    Region.seqB md ops l.length k listed = true → wpListIn F N P ops Q' l a w → wpAnyIn F N P md ops Q' l.length listed a w
  | [], _, _, _, _, _, hB, h => ⟨by simpa [Region.seqB] using hB, h⟩
  | o :: l, k, listed, a, w, hl, hB, h => by
    have h0 : ops[k]? = some o := by simpa using (hl 0).symm
    simp only [List.length_cons, Region.seqB, Bool.and_eq_true, decide_eq_true_eq] at hB
    refine ⟨fun h1 => (by rw [hB.1] at h1; cases h1), fun i hi => ?_⟩
    rw [hB.1] at hi
    have hik : i = k := by simpa using hi
    subst hik
    have hw : wpOpIn F N P ops Q' i (wpListIn F N P ops Q' l) a w := by unfold wpOpIn; simp only [h0]; exact h
    exact wpOpIn_mono (fun a' w' h' => wpAnyIn_of_seq l (i + 1) _ a' w' (fun j => by have := hl (j + 1); simpa [Nat.add_assoc, Nat.add_comm 1 j] using this) hB.2 h') hw
theorem wpOpIn_head {hd tl : List Oper} {i : Nat} {K K' : Act → World → Prop} {a : Act} {w : World} (hB : headB md (hd ++ tl).toArray hd.length = true) (hi : i < hd.length) (hK : ∀ a w, K a w → K' a w)
    (h : wpOpIn F N P hd.toArray (headPostIn F N P (hd ++ tl).toArray tl Q) i K a w) : wpOpIn F N P (hd ++ tl).toArray Q i K' a w := by
  obtain ⟨o, ho, _, hg⟩ := headB_spec hB hi
  have ho' : hd.toArray[i]? = some o := by
    simpa [List.getElem?_append_left hi] using ho
  refine wpOpIn_mono hK ?_
  unfold wpOpIn at *
  simp only [ho] at ⊢
  simp only [ho'] at h
  have hw : Region.wanted o (yielded (hd ++ tl).toArray a.tmps) = Region.wanted o (yielded hd.toArray a.tmps) := by
    unfold Region.wanted
    cases hgo : o.guard with
    | none => rfl
    | some p =>
      obtain ⟨j, b⟩ := p
      have hj := hg j b hgo
      have e : (hd ++ tl).toArray[j]? = hd.toArray[j]? := by simp [List.getElem?_append_left hj]
      simp only [yielded, e]
  rw [hw]
  split
  · rename_i hw
    simp only [hw, if_true] at h
    exact oper_wpIn_post h
  · rename_i hw
    simp only [hw] at h
    exact h

theorem wpAnyIn_split {hd tl : List Oper} (hB : headB md (hd ++ tl).toArray hd.length = true) (hs : Region.sinkB md (hd ++ tl).toArray hd.length = true) (hc : Region.chainB md (hd ++ tl).toArray hd.length = true) (ht : 0 < tl.length)
    (hq : Region.seqB md (hd ++ tl).toArray tl.length hd.length (List.replicate hd.length true ++ List.replicate tl.length false).toArray = true) :
    ∀ (f : Nat) (lh listed : Array Bool) (a : Act) (w : World), HeadInv md (hd ++ tl).toArray hd.length listed → (∀ j, j < hd.length → lh[j]? = listed[j]?) →
      wpAnyIn F N P md hd.toArray (headPostIn F N P (hd ++ tl).toArray tl Q) f lh a w → wpAnyIn F N P md (hd ++ tl).toArray Q (f + tl.length) listed a w := by
  have hsz : (hd ++ tl).toArray.size = hd.length + tl.length := by simp
  have done : ∀ (f : Nat) (lh listed : Array Bool) (a : Act) (w : World), HeadInv md (hd ++ tl).toArray hd.length listed → (∀ j, j < hd.length → lh[j]? = listed[j]?) → Region.ready md hd.toArray lh = [] →
      wpListIn F N P (hd ++ tl).toArray Q tl a w → wpAnyIn F N P md (hd ++ tl).toArray Q (f + tl.length) listed a w := by
    intro f lh listed a w inv hr h0 h
    have hall : ∀ i, i < hd.length → listed.getD i true = true := fun i hi => by
      cases hx : listed.getD i true with
      | true => rfl
      | false =>
        obtain ⟨j, hj, hjr⟩ := ready_some hB (by rw [inv.size, hsz]; omega) i hi hx
        have := (ready_head hB hj hr).1 hjr
        rw [h0] at this
        cases this
    have hl : listed = (List.replicate hd.length true ++ List.replicate tl.length false).toArray := by
      apply Array.ext
      · simp [inv.size]
      · intro i h1 h2
        rcases Nat.lt_or_ge i hd.length with hi | hi
        · have := hall i hi
          rw [Array.getD_eq_getD_getElem?, Array.getElem?_eq_getElem h1] at this
          simpa [List.getElem_append, hi] using this
        · have hi' : i < hd.length + tl.length := by rw [inv.size, hsz] at h1; exact h1
          have := inv.tail i hi (by rw [hsz]; exact hi')
          rw [Array.getD_eq_getD_getElem?, Array.getElem?_eq_getElem h1] at this
          simpa [List.getElem_append, Nat.not_lt.2 hi] using this
    refine wpAnyIn_pad _ _ _ _ ?_ f
    refine wpAnyIn_of_seq tl hd.length listed a w (fun j => by rw [List.getElem?_toArray, List.getElem?_append_right (Nat.le_add_right _ _), Nat.add_sub_cancel_left]) ?_ h
    rw [hl]
    exact hq
  intro f
  induction f with
  | zero => exact fun lh listed a w inv hr h => done 0 lh listed a w inv hr h.1 h.2
  | succ f ih =>
    intro lh listed a w inv hr h
    by_cases h0 : Region.ready md hd.toArray lh = []
    · exact done (f + 1) lh listed a w inv hr h0 (h.1 h0)
    · obtain ⟨i0, hi0⟩ := List.exists_mem_of_ne_nil _ h0
      have hlt0 : i0 < hd.length := by
        obtain ⟨_, o, ho, _⟩ := mem_ready.1 hi0
        simpa using (Array.getElem?_eq_some_iff.1 ho).1
      have hu0 : listed.getD i0 true = false := (getD_of (hr i0 hlt0)).symm.trans (mem_ready.1 hi0).1
      rw [show f + 1 + tl.length = f + tl.length + 1 by omega]
      refine ⟨fun h1 => ?_, fun i hi => ?_⟩
      · have := (ready_head hB hlt0 hr).2 hi0
        rw [h1] at this
        cases this
      · have hin : i < hd.length := by
          rcases Nat.lt_or_ge i hd.length with h | h
          · exact h
          · exact absurd hi (tail_waits hs hc (by rw [hsz]; omega) inv _ i0 rfl hlt0 hu0 i h)
        refine wpOpIn_head hB hin (fun a' w' h' => ih _ _ a' w' (inv.set hi hin) (fun j hj => ?_) h') (h.2 i ((ready_head hB hin hr).1 hi))
        have hs1 : lh.size = lh.size := rfl
        by_cases hij : i = j
        · subst hij
          have e := hr i hin
          have hlt : i < listed.size := by rw [inv.size, hsz]; omega
          have hlt' : i < lh.size := by
            rcases Nat.lt_or_ge i lh.size with h | h
            · exact h
            · rw [Array.getElem?_eq_none h, Array.getElem?_eq_getElem hlt] at e
              cases e
          simp [hlt, hlt']
        · rw [Array.getElem?_setIfInBounds_ne hij, Array.getElem?_setIfInBounds_ne hij]
          exact hr j hj

/-- A drawn region inside a fence: its first m operations in whatever order, told by relations; then the others, which wait for them, in the order of the text. -/
theorem wpIn_region_rel_head (hF : Wide F) {id : Nat} {a : Act} {w : World} {l : List Oper} (m : Nat) (lss : List Looks) (es : List (Nat × Nat)) (hm : P.follows .mixedOrders = true) (hnd : ((l.take m).all noDefer) = true) (hn : decide (m < l.length) = true)
    (hB : (relB (l.take m).toArray a.tmps.size lss && es.all fun e => decide (e.1 < (l.take m).length) && writesB (l.take m).toArray ((l.take m).length - 1 - e.1) e.2) = true)
    (hH : headB .any (l.take m ++ l.drop m).toArray (l.take m).length = true) (hs : Region.sinkB .any (l.take m ++ l.drop m).toArray (l.take m).length = true) (hc : Region.chainB .any (l.take m ++ l.drop m).toArray (l.take m).length = true)
    (hq : Region.seqB .any (l.take m ++ l.drop m).toArray (l.drop m).length (l.take m).length (List.replicate (l.take m).length true ++ List.replicate (l.drop m).length false).toArray = true)
    (h : obFrom P (ClB w) StB a (fun K => ∀ (vs : Nat → Value) (w' : World), ClB w w' → endSeen K vs w' es (wpListIn F N P l.toArray Q (l.drop m) ⟨writeAll (l.take m) vs a.tmps, a.defers⟩ w')) (l.take m) lss []) : (Code.region id l.toArray true).wpIn F N P Q a w := by
  have hn' : m < l.length := by simpa using hn
  have e : l.take m ++ l.drop m = l := List.take_append_drop m l
  refine wpIn_region_any hm ?_
  have H := wpAnyIn_split (F := F) (N := N) (P := P) (Q := Q) hH hs hc (by simp; omega) hq (l.take m).toArray.size (Array.replicate (l.take m).toArray.size false) (Array.replicate l.toArray.size false) a w.drew
    ⟨by rw [e]; simp, fun j oj _ hl => (by rw [getD_replicate_false] at hl; cases hl), fun t _ ht => getD_in (by rw [e] at ht; simpa using ht) (getD_replicate_false _ _)⟩
    (fun j hj => by
      have hj2 : j < (l.take m).toArray.size := by simpa using hj
      have hj3 : j < l.toArray.size := by simp at hj2 ⊢; omega
      rw [Array.getElem?_replicate, Array.getElem?_replicate, if_pos hj2, if_pos hj3])
    (by rw [e]; exact wpAnyIn_rel hF (Q := headPostIn F N P l.toArray (l.drop m) Q) (ClB w) StB lss es hB (fun _ => Below.refl _ _) ((Below.refl _ _).drew) hnd h)
  have hl : (l.take m).toArray.size + (l.drop m).length = l.toArray.size := by simp; omega
  rw [hl, e] at H
  exact H
end
end Go.Proofs.YtkphihbimdffjaaDoor
