/-
  XRel inside a round of a loop over a function.
-/
import Derived.Test.YtkphihbimdffjaaDoorRel
import Derived.OrdersIn
import Derived.RangeFuncCalls
namespace Go.Proofs.YtkphihbimdffjaaDoor
open Go.RowKit

/-- No bound at all: outside of rounds, or in one. -/
def Wide (F : Fence) : Prop := F = Fence.wide ∨ ∃ l, F = Fence.wide.inRound l
theorem Wide.fn {F : Fence} (h : Wide F) (f : FuncId) : F.fn f := by
  rcases h with rfl | ⟨l, rfl⟩ <;> trivial
theorem Wide.depth {F : Fence} (h : Wide F) : F.depth = none := by
  rcases h with rfl | ⟨l, rfl⟩ <;> rfl
theorem Wide.calls {F : Fence} {n : Nat} {P : Program} {f : FuncId} {args : Array Value} {w : World} {R : Ending → World → Prop} (h : Wide F) (hc : Calls P f args w R) : CallsIn F n P f args w R := by
  rcases h with rfl | ⟨l, rfl⟩
  · exact callsIn_wide.2 hc
  · exact (callsIn_wide.2 hc).inRound l
def noDefer (o : Oper) : Bool := match o.op with
  | .defer _ => false
  | _ => true
section
variable {P : Program} {C : World → Prop} {St : World → World → Prop} {a0 : Act} {ops : Array Oper}

theorem wpIn_of_relUpon {F : Fence} {n : Nat} (hF : Wide F) {Q : Exit → Act → World → Prop} {o : Oper} {a : Act} {w : World} {T : Rel} {K : Act → World → Prop} (hnd : noDefer o = true) (h : relUpon P C St w T ((execOp a.eval o).run P w))
    (hK : ∀ v w', C w' → St w w' → T v w' → K (a.put o.dst v) w') : o.wpIn F n P a w K Q := by
  unfold Oper.wpIn
  refine ⟨fun _ _ => hF.fn _, ?_⟩
  rw [Oper.semAt_eq _ _ _ (fun c hc => by unfold noDefer at hnd; rw [hc] at hnd; cases hnd)]
  generalize (execOp a.eval o).run P w = r at *
  cases r with
  | ok x w' =>
    cases x <;> simp only [relUpon] at h <;> simp only [Oper.uponIn]
    case value u => exact hK _ _ h.1 h.2.1 h.2.2
    case skip => exact hK _ _ h.1 h.2.1 h.2.2
    case enter f args => exact ⟨fun h' => (by rw [hF.depth] at h'; cases h'), CallsIn.mono (hF.calls h) fun e w'' ⟨v, he, h1, h2, h3⟩ => by subst he; exact hK _ _ h1 h2 h3⟩
  | halt x w' => simp only [relUpon] at h

theorem rel_anyIn {F : Fence} {n : Nat} (hF : Wide F) (hnd : ∀ (i : Nat) (o : Oper), ops[i]? = some o → noDefer o = true) {Q : Exit → Act → World → Prop} {N : Nat} {lss : List Looks} {R : List Rel} (hB : relB ops N lss = true) (hN : a0.tmps.size = N)
    (hob : ∀ i o ls, ops[i]? = some o → lss[i]? = some ls →
      (∀ v w w', (R.getD i fun _ _ => True) v w → St w w' → (R.getD i fun _ _ => True) v w') ∧
      ∀ ρ w, Consts ρ → C w → seen a0 (R.take i).reverse ρ w ls.1 (obOp P C St o ls.2 (R.getD i fun _ _ => True) ρ w))
    (hR : R.length = ops.size) (hrefl : ∀ w, St w w)
    (hfin : ∀ a w, RInv ops C a0 R (Array.replicate ops.size true) a w → Q .normal a w) :
    ∀ (fuel : Nat) (listed : Array Bool) (a : Act) (w : World), listed.count false ≤ fuel → RInv ops C a0 R listed a w → wpAnyIn F n P .any ops Q fuel listed a w := by
  have hNw : ∀ j t, writesB ops j t = true → t < N := fun j t h => by
    obtain ⟨o, ho, hd⟩ := writesB_spec h
    obtain ⟨ls, _, hop⟩ := relB_spec hB ho
    simp only [opB, hd, Bool.and_eq_true, decide_eq_true_eq] at hop
    exact hop.1.1.1.1.2.1
  have huniq : ∀ i j t, writesB ops i t = true → writesB ops j t = true → j = i := fun i j t h h' => by
    obtain ⟨o, ho, hd⟩ := writesB_spec h
    obtain ⟨ls, _, hop⟩ := relB_spec hB ho
    simp only [opB, hd, Bool.and_eq_true] at hop
    obtain ⟨oj, hoj, _⟩ := writesB_spec h'
    have := List.all_eq_true.1 hop.1.1.1.1.2.2 j (List.mem_range.2 (Array.getElem?_eq_some_iff.1 hoj).1)
    simpa [h'] using this
  have done : ∀ (listed : Array Bool) (a : Act) (w : World), RInv ops C a0 R listed a w → Region.ready .any ops listed = [] → Q .normal a w := by
    intro listed a w inv hr
    have hall : ∀ i, i < ops.size → listed.getD i true = true := fun i hi => by
      cases hx : listed.getD i true with
      | true => rfl
      | false =>
        obtain ⟨j, hj⟩ := rel_ready_some hB inv.lsize i hi hx
        rw [hr] at hj
        cases hj
    have e : listed = Array.replicate ops.size true := by
      apply Array.ext
      · simp [inv.lsize]
      · intro i h1 h2
        have := hall i (by rw [← inv.lsize]; exact h1)
        simp only [Array.getD_eq_getD_getElem?, Array.getElem?_eq_getElem h1, Option.getD_some] at this
        simpa using this
    rw [e] at inv
    exact hfin a w inv
  intro fuel
  induction fuel with
  | zero =>
    intro listed a w hc inv
    have hr : Region.ready .any ops listed = [] := by
      refine List.eq_nil_iff_forall_not_mem.2 fun i hi => ?_
      obtain ⟨hu, o, ho, _⟩ := mem_ready.1 hi
      have hlt : i < listed.size := by rw [inv.lsize]; exact (Array.getElem?_eq_some_iff.1 ho).1
      have hf : false ∈ listed := by
        simp only [Array.getD_eq_getD_getElem?, Array.getElem?_eq_getElem hlt, Option.getD_some] at hu
        exact Array.mem_of_getElem hu
      have := Array.count_pos_iff.2 hf
      omega
    exact ⟨hr, done listed a w inv hr⟩
  | succ fuel ih =>
    intro listed a w hc inv
    refine ⟨done listed a w inv, fun i hi => ?_⟩
    obtain ⟨hu, o, ho, hpre⟩ := mem_ready.1 hi
    have hi' : i < ops.size := (Array.getElem?_eq_some_iff.1 ho).1
    have hlt : i < listed.size := by rw [inv.lsize]; exact hi'
    have huf : listed[i] = false := by simpa [Array.getD_eq_getD_getElem?, Array.getElem?_eq_getElem hlt] using hu
    have huF : listed.getD i false = false := by simp [Array.getD_eq_getD_getElem?, Array.getElem?_eq_getElem hlt, huf]
    obtain ⟨ls, hls, hop⟩ := relB_spec hB ho
    simp only [opB, Bool.and_eq_true] at hop
    obtain ⟨⟨⟨⟨⟨_, hdst⟩, hopd⟩, hlook⟩, hguard⟩, hafter⟩ := hop
    obtain ⟨hst, hobi⟩ := hob i o ls ho hls
    have hobi := hobi a.eval w ⟨fun _ => rfl, fun _ => rfl, fun _ => rfl⟩ inv.cls
    have hwait : ∀ j, waitsB ops i j = true → listed.getD j false = true := fun j hw => by
      obtain ⟨o', ho', e, he, hb, rfl⟩ := waitsB_spec hw
      obtain rfl : o' = o := Option.some.inj (ho'.symm.trans ho)
      exact hpre e he hb
    have hG : obOp P C St o ls.2 (R.getD i fun _ _ => True) a.eval w := by
      refine seen_elim hobi (fun t d hm => ?_) (fun t hm => ?_)
      · have := List.all_eq_true.1 hlook _ hm
        simp only [lookB, Bool.and_eq_true, decide_eq_true_eq] at this
        obtain ⟨⟨hd, hw⟩, hwt⟩ := this
        obtain ⟨oj, hoj, hdj⟩ := writesB_spec hw
        have hf := inv.facts (i - 1 - d) oj t hoj hdj (hwait _ hwt)
        have hRi : i ≤ R.length := by omega
        have e : (R.take i).reverse.getD d (fun _ _ => True) = R.getD (i - 1 - d) (fun _ _ => True) := by
          simp only [List.getD_eq_getElem?_getD]
          rw [List.getElem?_reverse (by simp; omega)]
          simp only [List.length_take, Nat.min_eq_left hRi]
          rw [List.getElem?_take_of_lt (by omega)]
        rw [e]
        exact hf
      · have := List.all_eq_true.1 hlook _ hm
        simp only [lookB] at this
        refine inv.olds t fun j hw => ?_
        obtain ⟨oj, hoj, _⟩ := writesB_spec hw
        have := List.all_eq_true.1 this j (List.mem_range.2 (Array.getElem?_eq_some_iff.1 hoj).1)
        simp only [hw, Bool.not_true, Bool.false_or, Bool.or_eq_true, beq_iff_eq] at this
        rcases this with rfl | hwt
        · exact huF
        · cases hx : listed.getD j false with
          | false => rfl
          | true =>
            have := inv.down j i hx hwt
            rw [huF] at this
            cases this
    have hnext : ∀ v w', C w' → St w w' → (R.getD i fun _ _ => True) v w' → RInv ops C a0 R (listed.setIfInBounds i true) (a.put o.dst v) w' := by
      intro v w' hC hSt hT
      have hg : ∀ j, j ≠ i → (listed.setIfInBounds i true).getD j false = listed.getD j false := fun j hj => getD_set_ne false (Ne.symm hj)
      have hgi : (listed.setIfInBounds i true).getD i false = true := by simp [hlt]
      refine ⟨hC, ?_, ?_, by simp [inv.lsize], fun j oj t hoj hdj hl => ?_, fun t ht => ?_, fun j k hj hw => ?_⟩
      · rw [← inv.defers]; cases o.dst <;> rfl
      · rw [← inv.size]; cases o.dst <;> simp [Act.put]
      · by_cases hji : j = i
        · subst hji
          obtain rfl : oj = o := Option.some.inj (hoj.symm.trans ho)
          rw [hdj, eval_put_eq (by rw [inv.size, hN]; exact hNw _ _ (writesB_of hoj hdj))]
          exact hT
        · rw [hg j hji] at hl
          have e : (a.put o.dst v).eval (.tmp t) = a.eval (.tmp t) := by
            cases hd : o.dst with
            | none => rfl
            | some d =>
              refine eval_put_ne fun he => ?_
              subst he
              exact hji (huniq _ _ _ (writesB_of ho hd) (writesB_of hoj hdj))
          rw [e]
          obtain ⟨lsj, hlsj, _⟩ := relB_spec hB hoj
          exact (hob j oj lsj hoj hlsj).1 _ _ _ (inv.facts j oj t hoj hdj hl) hSt
      · have hne : ¬ writesB ops i t = true := fun hw => by
          have := ht i hw
          rw [hgi] at this
          cases this
        have e : (a.put o.dst v).eval (.tmp t) = a.eval (.tmp t) := by
          cases hd : o.dst with
          | none => rfl
          | some d =>
            refine eval_put_ne fun he => ?_
            subst he
            exact hne (writesB_of ho hd)
        rw [e]
        refine inv.olds t fun j hw => ?_
        by_cases hji : j = i
        · subst hji; exact absurd hw hne
        · rw [← hg j hji]; exact ht j hw
      · by_cases hki : k = i
        · subst hki; exact hgi
        · rw [hg k hki]
          by_cases hji : j = i
          · subst hji; exact hwait k hw
          · rw [hg j hji] at hj; exact inv.down j k hj hw
    have hcount : (listed.setIfInBounds i true).count false ≤ fuel := by
      have hf : false ∈ listed := Array.mem_of_getElem huf
      have h1 := Array.count_pos_iff.2 hf
      rw [Array.setIfInBounds_def, dif_pos hlt, Array.count_set]
      simp only [huf, beq_self_eq_true, if_true]
      have : (true == false) = false := rfl
      simp only [this, Bool.false_eq_true, if_false]
      omega
    have hwant := wanted_of_guard (a := a) (ls := ls) (by rw [inv.size]; exact hN) hNw hguard
    unfold wpOpIn
    simp only [ho]
    obtain ⟨l1, gd⟩ := ls
    cases gd with
    | none =>
      dsimp only at hwant
      rw [if_pos hwant]
      exact (wpIn_of_relUpon hF (hnd i o ho) hG fun v w' h1 h2 h3 => ih _ _ _ hcount (hnext v w' h1 h2 h3))
    | some p =>
      obtain ⟨t, b⟩ := p
      dsimp only at hwant
      dsimp only [obOp] at hG
      by_cases hv : a.eval (.tmp t) = .bool b
      · rw [if_pos (hwant.2 hv)]
        exact (wpIn_of_relUpon hF (hnd i o ho) (hG.1 hv) fun v w' h1 h2 h3 => ih _ _ _ hcount (hnext v w' h1 h2 h3))
      · rw [if_neg (fun h => hv (hwant.1 h))]
        exact ⟨fun _ _ => hF.fn _, ih _ _ _ hcount (hnext undef w inv.cls (hrefl w) (hG.2 hv))⟩
end

/-- **A region that draws its order, told by relations.** lss: what each operation looks at; es: what is wanted at the end: (counted backwards from the last operation, its temporary). -/
theorem wpAnyIn_rel {F : Fence} {n : Nat} (hF : Wide F) {P : Program} {Q : Exit → Act → World → Prop} {a : Act} {w : World} {l : List Oper} (C : World → Prop) (St : World → World → Prop) (lss : List Looks) (es : List (Nat × Nat)) 
    (hB : (relB l.toArray a.tmps.size lss && es.all fun e => decide (e.1 < l.length) && writesB l.toArray (l.length - 1 - e.1) e.2) = true) (hrefl : ∀ w, St w w) (hC : C w.drew) (hnd : (l.all noDefer) = true)
    (h : obFrom P C St a (fun K => ∀ (vs : Nat → Value) (w' : World), C w' → endSeen K vs w' es (Q .normal ⟨writeAll l vs a.tmps, a.defers⟩ w')) l lss []) : wpAnyIn F n P .any l.toArray Q l.toArray.size (Array.replicate l.toArray.size false) a w.drew := by
  simp only [Bool.and_eq_true] at hB
  obtain ⟨R, hl, hf, hall⟩ := ob_all l lss [] h
  simp only [List.append_nil] at hf hall
  refine (rel_anyIn hF (fun i o ho => List.all_eq_true.1 hnd o (List.mem_of_getElem? (by simpa using ho))) (N := a.tmps.size) (lss := lss) (R := R) hB.1 rfl (fun i o ls ho hls => hall i o ls (by simpa using ho) hls) (by simpa using hl) hrefl ?_ _ _ _ _ ?_ ?_)
  · intro a' w' inv
    have hk := hf (fun t => a'.eval (.tmp t)) w' inv.cls
    have hq := endSeen_intro hk fun d t hm => by
      have := List.all_eq_true.1 hB.2 _ hm
      simp only [Bool.and_eq_true, decide_eq_true_eq] at this
      obtain ⟨o, ho, hd⟩ := writesB_spec this.2
      have hf := inv.facts _ o t ho hd (by
        have := (Array.getElem?_eq_some_iff.1 ho).1
        simp only [Array.getD_eq_getD_getElem?]
        rw [Array.getElem?_replicate, if_pos this]
        rfl)
      have e : R.reverse.getD d (fun _ _ => True) = R.getD (l.length - 1 - d) (fun _ _ => True) := by
        simp only [List.getD_eq_getElem?_getD]
        rw [List.getElem?_reverse (by omega), hl]
      rw [e]
      exact hf
    have e : (⟨writeAll l (fun t => a'.eval (.tmp t)) a.tmps, a.defers⟩ : Act) = a' := by
      obtain ⟨t', d'⟩ := a'
      have h1 := inv.size
      have h2 := inv.defers
      dsimp only at h1 h2 ⊢
      congr 1
      · apply Array.ext
        · rw [writeAll_size, h1]
        · intro s hs1 hs2
          apply Option.some.inj
          rw [← Array.getElem?_eq_getElem hs1, ← Array.getElem?_eq_getElem hs2]
          have hsa : s < a.tmps.size := by rw [← h1]; exact hs2
          have ev : (⟨t', d'⟩ : Act).eval (.tmp s) = t'[s] := by simp [Act.eval, hs2]
          by_cases hx : ∃ o ∈ l, o.dst = some s
          · rw [writeAll_some l _ hsa (.inr hx), ev, Array.getElem?_eq_getElem hs2]
          · rw [writeAll_none l _ (fun o ho he => hx ⟨o, ho, he⟩)]
            have := inv.olds s (fun j hw => by
              obtain ⟨o, ho, hd⟩ := writesB_spec hw
              exact absurd ⟨o, List.mem_of_getElem? (by simpa using ho), hd⟩ hx)
            rw [ev] at this
            rw [Array.getElem?_eq_getElem hs2, this]
            simp [Act.eval, hsa]
      · exact h2.symm
    rw [e] at hq
    exact hq
  · simp
  · refine ⟨hC, rfl, rfl, by simp, fun j o t _ _ hj => ?_, fun _ _ => rfl, fun j k hj => ?_⟩
    · rw [Array.getD_eq_getD_getElem?, Array.getElem?_replicate] at hj
      split at hj <;> simp at hj
    · rw [Array.getD_eq_getD_getElem?, Array.getElem?_replicate] at hj
      split at hj <;> simp at hj



/-- A drawn region inside a fence. -/
theorem wpIn_region_rel_below {F : Fence} {n : Nat} (hF : Wide F) {P : Program} {id : Nat} {Q : Exit → Act → World → Prop} {a : Act} {w : World} {l : List Oper} (lss : List Looks) (es : List (Nat × Nat)) (hm : P.follows .mixedOrders = true) (hnd : (l.all noDefer) = true)
    (hB : (relB l.toArray a.tmps.size lss && es.all fun e => decide (e.1 < l.length) && writesB l.toArray (l.length - 1 - e.1) e.2) = true)
    (h : obFrom P (ClB w) StB a (fun K => ∀ (vs : Nat → Value) (w' : World), ClB w w' → endSeen K vs w' es (Q .normal ⟨writeAll l vs a.tmps, a.defers⟩ w')) l lss []) : (Code.region id l.toArray true).wpIn F n P Q a w :=
  wpIn_region_any hm (wpAnyIn_rel hF (ClB w) StB lss es hB (fun _ => Below.refl _ _) ((Below.refl _ _).drew) hnd h)
end Go.Proofs.YtkphihbimdffjaaDoor
