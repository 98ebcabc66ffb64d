/-
  A region that draws its order, told by relations: each operation, whenever it comes up behind those for which it waits, leaves a value that meets a relation of its own, which no later operation breaks; so at the end all relations hold, whatever the order was.
-/
import Derived.Test.YtkphihbimdffjaaDoorBase
namespace Go.Proofs.YtkphihbimdffjaaDoor
open Go.RowKit

/-- What is known of an operation's value. -/
abbrev Rel := Value → World → Prop
/-- A temporary at which an operation looks: written by which of the operations ahead (0: the one just ahead), or by none yet. -/
abbrev Look := Nat × Option Nat
/-- What one operation looks at; its guard's temporary. -/
abbrev Looks := List Look × Option (Nat × Bool)

section
variable (P : Program) (C : World → Prop) (St : World → World → Prop) (a0 : Act)

/-- What an operand that is no temporary holds. -/
structure Consts (ρ : Operand → Value) : Prop where
  const : ∀ v, ρ (.const v) = v
  global : ∀ g, ρ (.global g) = .pointer (some ⟨g, 0, none⟩)
  func : ∀ f, ρ (.func f) = .func (.func f) #[] #[]

def seen (known : List Rel) (ρ : Operand → Value) (w : World) : List Look → Prop → Prop
  | [], G => G
  | (t, some d) :: r, G => (known.getD d fun _ _ => True) (ρ (.tmp t)) w → seen known ρ w r G
  | (t, none) :: r, G => ρ (.tmp t) = a0.eval (.tmp t) → seen known ρ w r G

def relUpon (w : World) (T : Rel) : Result Next → Prop
  | .ok (.value v) w' => C w' ∧ St w w' ∧ T v w'
  | .ok .skip w' => C w' ∧ St w w' ∧ T undef w'
  | .ok (.enter f args) w' => Calls P f args w' fun e w'' => ∃ v, e = .returned v ∧ C w'' ∧ St w w'' ∧ T v w''
  | _ => False

def obOp (o : Oper) (gd : Option (Nat × Bool)) (T : Rel) (ρ : Operand → Value) (w : World) : Prop :=
  match gd with
  | none => relUpon P C St w T ((execOp ρ o).run P w)
  | some (t, b) => (ρ (.tmp t) = .bool b → relUpon P C St w T ((execOp ρ o).run P w)) ∧ (ρ (.tmp t) ≠ .bool b → T undef w)

/-- What is owed of the operations, in the order of the text. -/
def obFrom (fin : List Rel → Prop) : List Oper → List Looks → List Rel → Prop
  | [], _, known => fin known
  | o :: os, ls :: lss, known => ∃ T : Rel, (∀ v w w', T v w → St w w' → T v w') ∧ (∀ ρ w, Consts ρ → C w → seen a0 known ρ w ls.1 (obOp P C St o ls.2 T ρ w)) ∧ obFrom fin os lss (T :: known)
  | _ :: _, [], _ => False
end

/-! ### The Bool -/
def waitsB (ops : Array Oper) (i j : Nat) : Bool := match ops[i]? with
  | some o => o.after.any fun e => Region.binds .any e && e.on == j
  | none => false
def writesB (ops : Array Oper) (j t : Nat) : Bool := match ops[j]? with
  | some o => o.dst == some t
  | none => false
def lookB (ops : Array Oper) (i : Nat) : Look → Bool
  | (t, some d) => decide (d < i) && writesB ops (i - 1 - d) t && waitsB ops i (i - 1 - d)
  | (t, none) => (List.range ops.size).all fun j => !writesB ops j t || j == i || waitsB ops j i
def guardB (ops : Array Oper) (o : Oper) : Option (Nat × Bool) → Bool
  | none => o.guard.isNone
  | some (t, b) => match o.guard with
    | some (g, b') => writesB ops g t && b' == b
    | none => false
def opB (ops : Array Oper) (N i : Nat) (o : Oper) (ls : Looks) : Bool :=
  (match o.op with | .select .. => false | _ => true) &&
  (match o.dst with | some d => decide (d < N) && (List.range ops.size).all (fun j => j == i || !writesB ops j d) | none => true) &&
  (o.op.operands.all fun x => match x with | .tmp t => ls.1.any (fun l => l.1 == t) | _ => true) &&
  ls.1.all (lookB ops i) && guardB ops o ls.2 && o.after.all (fun e => !Region.binds .any e || decide (e.on < i))
def relB (ops : Array Oper) (N : Nat) (lss : List Looks) : Bool :=
  (List.range ops.size).all fun i => match ops[i]?, lss[i]? with
    | some o, some ls => opB ops N i o ls
    | _, _ => false

section
variable {P : Program} {ops : Array Oper} {C : World → Prop} {St : World → World → Prop} {a0 : Act}

theorem seen_elim {known : List Rel} {ρ : Operand → Value} {w : World} {G : Prop} : ∀ {ls : List Look}, seen a0 known ρ w ls G → (∀ t d, (t, some d) ∈ ls → (known.getD d fun _ _ => True) (ρ (.tmp t)) w) → (∀ t, (t, none) ∈ ls → ρ (.tmp t) = a0.eval (.tmp t)) → G
  | [], h, _, _ => h
  | (t, some d) :: _, h, h1, h2 => seen_elim (h (h1 t d (List.mem_cons_self ..))) (fun t' d' hm => h1 t' d' (List.mem_cons_of_mem _ hm)) (fun t' hm => h2 t' (List.mem_cons_of_mem _ hm))
  | (t, none) :: _, h, h1, h2 => seen_elim (h (h2 t (List.mem_cons_self ..))) (fun t' d' hm => h1 t' d' (List.mem_cons_of_mem _ hm)) (fun t' hm => h2 t' (List.mem_cons_of_mem _ hm))

/-- The relations of all, and what is owed of each. -/
theorem ob_all {fin : List Rel → Prop} : ∀ (os : List Oper) (lss : List Looks) (known : List Rel), obFrom P C St a0 fin os lss known →
    ∃ R : List Rel, R.length = os.length ∧ fin (R.reverse ++ known) ∧ ∀ i o ls, os[i]? = some o → lss[i]? = some ls →
      (∀ v w w', (R.getD i fun _ _ => True) v w → St w w' → (R.getD i fun _ _ => True) v w') ∧
      ∀ ρ w, Consts ρ → C w → seen a0 ((R.take i).reverse ++ known) ρ w ls.1 (obOp P C St o ls.2 (R.getD i fun _ _ => True) ρ w)
  | [], _, known, h => ⟨[], rfl, h, fun i o ls ho _ => by simp at ho⟩
  | o :: os, [], known, h => h.elim
  | o :: os, ls :: lss, known, h => by
    obtain ⟨T, hT, hob, hr⟩ := h
    obtain ⟨R, hl, hf, hall⟩ := ob_all os lss (T :: known) hr
    refine ⟨T :: R, by simp [hl], by simpa using hf, fun i o' ls' ho hls => ?_⟩
    cases i with
    | zero =>
      simp only [List.getElem?_cons_zero, Option.some.injEq] at ho hls
      subst ho hls
      exact ⟨hT, hob⟩
    | succ i =>
      simp only [List.getElem?_cons_succ] at ho hls
      have := hall i o' ls' ho hls
      simpa using this

structure RInv (ops : Array Oper) (C : World → Prop) (a0 : Act) (R : List Rel) (listed : Array Bool) (a : Act) (w : World) : Prop where
  cls : C w
  defers : a.defers = a0.defers
  size : a.tmps.size = a0.tmps.size
  lsize : listed.size = ops.size
  facts : ∀ j o t, ops[j]? = some o → o.dst = some t → listed.getD j false = true → (R.getD j fun _ _ => True) (a.eval (.tmp t)) w
  olds : ∀ t, (∀ j, writesB ops j t = true → listed.getD j false = false) → a.eval (.tmp t) = a0.eval (.tmp t)
  down : ∀ j k, listed.getD j false = true → waitsB ops j k = true → listed.getD k false = true

theorem writesB_spec {j t : Nat} (h : writesB ops j t = true) : ∃ o, ops[j]? = some o ∧ o.dst = some t := by
  unfold writesB at h
  cases ho : ops[j]? with
  | none => simp [ho] at h
  | some o => simp only [ho] at h; exact ⟨o, rfl, by simpa using h⟩
theorem writesB_of {j t : Nat} {o : Oper} (ho : ops[j]? = some o) (hd : o.dst = some t) : writesB ops j t = true := by
  unfold writesB; simp [ho, hd]
theorem waitsB_spec {i j : Nat} (h : waitsB ops i j = true) : ∃ o, ops[i]? = some o ∧ ∃ e ∈ o.after, Region.binds .any e = true ∧ e.on = j := by
  unfold waitsB at h
  cases ho : ops[i]? with
  | none => simp [ho] at h
  | some o =>
    simp only [ho, Array.any_eq_true'] at h
    obtain ⟨e, he, hb⟩ := h
    simp only [Bool.and_eq_true, beq_iff_eq] at hb
    exact ⟨o, rfl, e, he, hb⟩

theorem eval_put_ne {a : Act} {d t : Nat} {v : Value} (h : d ≠ t) : (a.put (some d) v).eval (.tmp t) = a.eval (.tmp t) := by
  simp [Act.eval, Act.put, Array.getElem?_setIfInBounds_ne h]
theorem eval_put_eq {a : Act} {d : Nat} {v : Value} (h : d < a.tmps.size) : (a.put (some d) v).eval (.tmp d) = v := by
  simp [Act.eval, Act.put, h]

theorem wanted_of_guard {N : Nat} {o : Oper} {ls : Looks} {a : Act} (hsz : a.tmps.size = N) (hN : ∀ j t, writesB ops j t = true → t < N) (h : guardB ops o ls.2 = true) :
    match ls.2 with
    | none => Region.wanted o (yielded ops a.tmps) = true
    | some (t, b) => (Region.wanted o (yielded ops a.tmps) = true ↔ a.eval (.tmp t) = .bool b) := by
  obtain ⟨l1, gd⟩ := ls
  cases gd with
  | none =>
    simp only [guardB, Option.isNone_iff_eq_none] at h
    simp [Region.wanted, h]
  | some p =>
    obtain ⟨t, b⟩ := p
    simp only [guardB] at h
    cases hg : o.guard with
    | none => simp [hg] at h
    | some q =>
      obtain ⟨g, b'⟩ := q
      simp only [hg, Bool.and_eq_true, beq_iff_eq] at h
      obtain ⟨h1, rfl⟩ := h
      obtain ⟨og, ho, hd⟩ := writesB_spec h1
      have ht : t < a.tmps.size := by rw [hsz]; exact hN _ _ h1
      have e : a.tmps[t]? = some (a.eval (.tmp t)) := by simp [Act.eval, ht]
      dsimp only
      simp only [Region.wanted, hg, yielded, ho, Option.bind_some, hd, e]
      cases hv : a.eval (.tmp t) <;> simp

theorem wp_of_relUpon {Q : Exit → Act → World → Prop} {o : Oper} {a : Act} {w : World} {T : Rel} {K : Act → World → Prop} (h : relUpon P C St w T ((execOp a.eval o).run P w))
    (hK : ∀ v w', C w' → St w w' → T v w' → K (a.put o.dst v) w') : o.wp P a w K Q := by
  unfold Oper.wp
  generalize (execOp a.eval o).run P w = r at *
  cases r with
  | ok n w' =>
    cases n <;> simp only [relUpon] at h <;> simp only [Oper.upon]
    case value u => exact hK _ _ h.1 h.2.1 h.2.2
    case skip => exact hK _ _ h.1 h.2.1 h.2.2
    case enter f args => exact Calls.mono h fun e w'' ⟨v, he, h1, h2, h3⟩ => by subst he; exact hK _ _ h1 h2 h3
  | halt x w' => simp only [relUpon] at h

theorem relB_spec {N : Nat} {lss : List Looks} (h : relB ops N lss = true) {i : Nat} {o : Oper} (ho : ops[i]? = some o) : ∃ ls, lss[i]? = some ls ∧ opB ops N i o ls = true := by
  have h1 := List.all_eq_true.1 h i (List.mem_range.2 (Array.getElem?_eq_some_iff.1 ho).1)
  simp only [ho] at h1
  cases hl : lss[i]? with
  | none => simp [hl] at h1
  | some ls => simp only [hl] at h1; exact ⟨ls, rfl, h1⟩

theorem rel_ready_some {N : Nat} {lss : List Looks} (hB : relB ops N lss = true) {listed : Array Bool} (hl : listed.size = ops.size) : ∀ (i : Nat), i < ops.size → listed.getD i true = false → ∃ j, j ∈ Region.ready .any ops listed := by
  intro i
  induction i using Nat.strongRecOn with
  | _ i ih =>
    intro hi hu
    obtain ⟨o, ho⟩ : ∃ o, ops[i]? = some o := ⟨_, Array.getElem?_eq_getElem hi⟩
    obtain ⟨ls, hls, hop⟩ := relB_spec hB ho
    simp only [opB, Bool.and_eq_true] at hop
    by_cases h : ∀ e ∈ o.after, Region.binds .any e = true → listed.getD e.on false = true
    · exact ⟨i, mem_ready.2 ⟨hu, o, ho, h⟩⟩
    · simp only [Classical.not_forall] at h
      obtain ⟨e, he1, hb, h⟩ := h
      have h2 := Array.all_eq_true'.1 hop.2 e he1
      have hlt : e.on < i := by simpa [hb] using h2
      refine ih e.on hlt (by omega) ?_
      have hlt' : e.on < listed.size := by omega
      simp only [Array.getD_eq_getD_getElem?, Array.getElem?_eq_getElem hlt', Option.getD_some] at h ⊢
      simpa using h

theorem rel_any {Q : Exit → Act → World → Prop} {N : Nat} {lss : List Looks} {R : List Rel} (hB : relB ops N lss = true) (hN : a0.tmps.size = N)
    (hob : ∀ i o ls, ops[i]? = some o → lss[i]? = some ls →
      (∀ v w w', (R.getD i fun _ _ => True) v w → St w w' → (R.getD i fun _ _ => True) v w') ∧
      ∀ ρ w, Consts ρ → C w → seen a0 (R.take i).reverse ρ w ls.1 (obOp P C St o ls.2 (R.getD i fun _ _ => True) ρ w))
    (hR : R.length = ops.size) (hrefl : ∀ w, St w w)
    (hfin : ∀ a w, RInv ops C a0 R (Array.replicate ops.size true) a w → Q .normal a w) :
    ∀ (fuel : Nat) (listed : Array Bool) (a : Act) (w : World), listed.count false ≤ fuel → RInv ops C a0 R listed a w → wpAny P .any ops Q fuel listed a w := by
  have hNw : ∀ j t, writesB ops j t = true → t < N := fun j t h => by
    obtain ⟨o, ho, hd⟩ := writesB_spec h
    obtain ⟨ls, _, hop⟩ := relB_spec hB ho
    simp only [opB, hd, Bool.and_eq_true, decide_eq_true_eq] at hop
    exact hop.1.1.1.1.2.1
  have huniq : ∀ i j t, writesB ops i t = true → writesB ops j t = true → j = i := fun i j t h h' => by
    obtain ⟨o, ho, hd⟩ := writesB_spec h
    obtain ⟨ls, _, hop⟩ := relB_spec hB ho
    simp only [opB, hd, Bool.and_eq_true] at hop
    obtain ⟨oj, hoj, _⟩ := writesB_spec h'
    have := List.all_eq_true.1 hop.1.1.1.1.2.2 j (List.mem_range.2 (Array.getElem?_eq_some_iff.1 hoj).1)
    simpa [h'] using this
  have done : ∀ (listed : Array Bool) (a : Act) (w : World), RInv ops C a0 R listed a w → Region.ready .any ops listed = [] → Q .normal a w := by
    intro listed a w inv hr
    have hall : ∀ i, i < ops.size → listed.getD i true = true := fun i hi => by
      cases hx : listed.getD i true with
      | true => rfl
      | false =>
        obtain ⟨j, hj⟩ := rel_ready_some hB inv.lsize i hi hx
        rw [hr] at hj
        cases hj
    have e : listed = Array.replicate ops.size true := by
      apply Array.ext
      · simp [inv.lsize]
      · intro i h1 h2
        have := hall i (by rw [← inv.lsize]; exact h1)
        simp only [Array.getD_eq_getD_getElem?, Array.getElem?_eq_getElem h1, Option.getD_some] at this
        simpa using this
    rw [e] at inv
    exact hfin a w inv
  intro fuel
  induction fuel with
  | zero =>
    intro listed a w hc inv
    have hr : Region.ready .any ops listed = [] := by
      refine List.eq_nil_iff_forall_not_mem.2 fun i hi => ?_
      obtain ⟨hu, o, ho, _⟩ := mem_ready.1 hi
      have hlt : i < listed.size := by rw [inv.lsize]; exact (Array.getElem?_eq_some_iff.1 ho).1
      have hf : false ∈ listed := by
        simp only [Array.getD_eq_getD_getElem?, Array.getElem?_eq_getElem hlt, Option.getD_some] at hu
        exact Array.mem_of_getElem hu
      have := Array.count_pos_iff.2 hf
      omega
    exact ⟨hr, done listed a w inv hr⟩
  | succ fuel ih =>
    intro listed a w hc inv
    refine ⟨done listed a w inv, fun i hi => ?_⟩
    obtain ⟨hu, o, ho, hpre⟩ := mem_ready.1 hi
    have hi' : i < ops.size := (Array.getElem?_eq_some_iff.1 ho).1
    have hlt : i < listed.size := by rw [inv.lsize]; exact hi'
    have huf : listed[i] = false := by simpa [Array.getD_eq_getD_getElem?, Array.getElem?_eq_getElem hlt] using hu
    have huF : listed.getD i false = false := by simp [Array.getD_eq_getD_getElem?, Array.getElem?_eq_getElem hlt, huf]
    obtain ⟨ls, hls, hop⟩ := relB_spec hB ho
    simp only [opB, Bool.and_eq_true] at hop
    obtain ⟨⟨⟨⟨⟨_, hdst⟩, hopd⟩, hlook⟩, hguard⟩, hafter⟩ := hop
    obtain ⟨hst, hobi⟩ := hob i o ls ho hls
    have hobi := hobi a.eval w ⟨fun _ => rfl, fun _ => rfl, fun _ => rfl⟩ inv.cls
    have hwait : ∀ j, waitsB ops i j = true → listed.getD j false = true := fun j hw => by
      obtain ⟨o', ho', e, he, hb, rfl⟩ := waitsB_spec hw
      obtain rfl : o' = o := Option.some.inj (ho'.symm.trans ho)
      exact hpre e he hb
    have hG : obOp P C St o ls.2 (R.getD i fun _ _ => True) a.eval w := by
      refine seen_elim hobi (fun t d hm => ?_) (fun t hm => ?_)
      · have := List.all_eq_true.1 hlook _ hm
        simp only [lookB, Bool.and_eq_true, decide_eq_true_eq] at this
        obtain ⟨⟨hd, hw⟩, hwt⟩ := this
        obtain ⟨oj, hoj, hdj⟩ := writesB_spec hw
        have hf := inv.facts (i - 1 - d) oj t hoj hdj (hwait _ hwt)
        have hRi : i ≤ R.length := by omega
        have e : (R.take i).reverse.getD d (fun _ _ => True) = R.getD (i - 1 - d) (fun _ _ => True) := by
          simp only [List.getD_eq_getElem?_getD]
          rw [List.getElem?_reverse (by simp; omega)]
          simp only [List.length_take, Nat.min_eq_left hRi]
          rw [List.getElem?_take_of_lt (by omega)]
        rw [e]
        exact hf
      · have := List.all_eq_true.1 hlook _ hm
        simp only [lookB] at this
        refine inv.olds t fun j hw => ?_
        obtain ⟨oj, hoj, _⟩ := writesB_spec hw
        have := List.all_eq_true.1 this j (List.mem_range.2 (Array.getElem?_eq_some_iff.1 hoj).1)
        simp only [hw, Bool.not_true, Bool.false_or, Bool.or_eq_true, beq_iff_eq] at this
        rcases this with rfl | hwt
        · exact huF
        · cases hx : listed.getD j false with
          | false => rfl
          | true =>
            have := inv.down j i hx hwt
            rw [huF] at this
            cases this
    have hnext : ∀ v w', C w' → St w w' → (R.getD i fun _ _ => True) v w' → RInv ops C a0 R (listed.setIfInBounds i true) (a.put o.dst v) w' := by
      intro v w' hC hSt hT
      have hg : ∀ j, j ≠ i → (listed.setIfInBounds i true).getD j false = listed.getD j false := fun j hj => getD_set_ne false (Ne.symm hj)
      have hgi : (listed.setIfInBounds i true).getD i false = true := by simp [hlt]
      refine ⟨hC, ?_, ?_, by simp [inv.lsize], fun j oj t hoj hdj hl => ?_, fun t ht => ?_, fun j k hj hw => ?_⟩
      · rw [← inv.defers]; cases o.dst <;> rfl
      · rw [← inv.size]; cases o.dst <;> simp [Act.put]
      · by_cases hji : j = i
        · subst hji
          obtain rfl : oj = o := Option.some.inj (hoj.symm.trans ho)
          rw [hdj, eval_put_eq (by rw [inv.size, hN]; exact hNw _ _ (writesB_of hoj hdj))]
          exact hT
        · rw [hg j hji] at hl
          have e : (a.put o.dst v).eval (.tmp t) = a.eval (.tmp t) := by
            cases hd : o.dst with
            | none => rfl
            | some d =>
              refine eval_put_ne fun he => ?_
              subst he
              exact hji (huniq _ _ _ (writesB_of ho hd) (writesB_of hoj hdj))
          rw [e]
          obtain ⟨lsj, hlsj, _⟩ := relB_spec hB hoj
          exact (hob j oj lsj hoj hlsj).1 _ _ _ (inv.facts j oj t hoj hdj hl) hSt
      · have hne : ¬ writesB ops i t = true := fun hw => by
          have := ht i hw
          rw [hgi] at this
          cases this
        have e : (a.put o.dst v).eval (.tmp t) = a.eval (.tmp t) := by
          cases hd : o.dst with
          | none => rfl
          | some d =>
            refine eval_put_ne fun he => ?_
            subst he
            exact hne (writesB_of ho hd)
        rw [e]
        refine inv.olds t fun j hw => ?_
        by_cases hji : j = i
        · subst hji; exact absurd hw hne
        · rw [← hg j hji]; exact ht j hw
      · by_cases hki : k = i
        · subst hki; exact hgi
        · rw [hg k hki]
          by_cases hji : j = i
          · subst hji; exact hwait k hw
          · rw [hg j hji] at hj; exact inv.down j k hj hw
    have hcount : (listed.setIfInBounds i true).count false ≤ fuel := by
      have hf : false ∈ listed := Array.mem_of_getElem huf
      have h1 := Array.count_pos_iff.2 hf
      rw [Array.setIfInBounds_def, dif_pos hlt, Array.count_set]
      simp only [huf, beq_self_eq_true, if_true]
      have : (true == false) = false := rfl
      simp only [this, Bool.false_eq_true, if_false]
      omega
    have hwant := wanted_of_guard (a := a) (ls := ls) (by rw [inv.size]; exact hN) hNw hguard
    unfold wpOp
    simp only [ho]
    obtain ⟨l1, gd⟩ := ls
    cases gd with
    | none =>
      dsimp only at hwant
      rw [if_pos hwant]
      exact .inl (wp_of_relUpon hG fun v w' h1 h2 h3 => ih _ _ _ hcount (hnext v w' h1 h2 h3))
    | some p =>
      obtain ⟨t, b⟩ := p
      dsimp only at hwant
      dsimp only [obOp] at hG
      by_cases hv : a.eval (.tmp t) = .bool b
      · rw [if_pos (hwant.2 hv)]
        exact .inl (wp_of_relUpon (hG.1 hv) fun v w' h1 h2 h3 => ih _ _ _ hcount (hnext v w' h1 h2 h3))
      · rw [if_neg (fun h => hv (hwant.1 h))]
        exact ih _ _ _ hcount (hnext undef w inv.cls (hrefl w) (hG.2 hv))

def writeAll : List Oper → (Nat → Value) → Array Value → Array Value
  | [], _, t => t
  | o :: os, vs, t => match o.dst with
    | some d => writeAll os vs (t.setIfInBounds d (vs d))
    | none => writeAll os vs t
theorem writeAll_none {vs : Nat → Value} {s : Nat} : ∀ (os : List Oper) (t : Array Value), (∀ o ∈ os, o.dst ≠ some s) → (writeAll os vs t)[s]? = t[s]?
  | [], _, _ => rfl
  | o :: os, t, h => by
    have ih := fun t => writeAll_none (vs := vs) os t fun o' ho' => h o' (List.mem_cons_of_mem _ ho')
    unfold writeAll
    cases hd : o.dst with
    | none => exact ih t
    | some d =>
      dsimp only
      rw [ih]
      exact Array.getElem?_setIfInBounds_ne fun e => h o (List.mem_cons_self ..) (by rw [hd, e])
theorem writeAll_some {vs : Nat → Value} {s : Nat} : ∀ (os : List Oper) (t : Array Value), s < t.size → (t[s]? = some (vs s) ∨ ∃ o ∈ os, o.dst = some s) → (writeAll os vs t)[s]? = some (vs s)
  | [], _, _, h => by
    rcases h with h | ⟨o, ho, _⟩
    · exact h
    · cases ho
  | o :: os, t, hs, h => by
    unfold writeAll
    cases hd : o.dst with
    | none =>
      refine writeAll_some os t hs (h.imp id ?_)
      rintro ⟨o', ho', he⟩
      rcases List.mem_cons.1 ho' with rfl | ho'
      · rw [hd] at he; cases he
      · exact ⟨o', ho', he⟩
    | some d =>
      dsimp only
      refine writeAll_some os _ (by simpa using hs) ?_
      by_cases hds : d = s
      · subst hds
        exact .inl (by simp [hs])
      · rw [Array.getElem?_setIfInBounds_ne hds]
        refine h.imp id ?_
        rintro ⟨o', ho', he⟩
        rcases List.mem_cons.1 ho' with rfl | ho'
        · rw [hd] at he; exact absurd (Option.some.inj he) hds
        · exact ⟨o', ho', he⟩
theorem writeAll_size {vs : Nat → Value} : ∀ (os : List Oper) (t : Array Value), (writeAll os vs t).size = t.size
  | [], _ => rfl
  | o :: os, t => by
    unfold writeAll
    cases o.dst with
    | none => exact writeAll_size os t
    | some d => dsimp only; rw [writeAll_size os]; simp

def endSeen (K : List Rel) (vs : Nat → Value) (w : World) : List (Nat × Nat) → Prop → Prop
  | [], G => G
  | (d, t) :: r, G => (K.getD d fun _ _ => True) (vs t) w → endSeen K vs w r G
theorem endSeen_intro {K : List Rel} {vs : Nat → Value} {w : World} {G : Prop} : ∀ {es : List (Nat × Nat)}, endSeen K vs w es G → (∀ d t, (d, t) ∈ es → (K.getD d fun _ _ => True) (vs t) w) → G
  | [], h, _ => h
  | (d, t) :: _, h, h1 => endSeen_intro (h (h1 d t (List.mem_cons_self ..))) (fun d' t' hm => h1 d' t' (List.mem_cons_of_mem _ hm))
end

/-- **A region that draws its order, told by relations.** lss: what each operation looks at; es: what is wanted at the end: (counted backwards from the last operation, its temporary). -/
theorem wp_region_rel {P : Program} {id : Nat} {Q : Exit → Act → World → Prop} {a : Act} {w : World} {l : List Oper} (C : World → Prop) (St : World → World → Prop) (lss : List Looks) (es : List (Nat × Nat)) (hm : P.follows .mixedOrders = true)
    (hB : (relB l.toArray a.tmps.size lss && es.all fun e => decide (e.1 < l.length) && writesB l.toArray (l.length - 1 - e.1) e.2) = true) (hrefl : ∀ w, St w w) (hC : C w.drew)
    (h : obFrom P C St a (fun K => ∀ (vs : Nat → Value) (w' : World), C w' → endSeen K vs w' es (Q .normal ⟨writeAll l vs a.tmps, a.defers⟩ w')) l lss []) : (Code.region id l.toArray true).wp P Q a w := by
  simp only [Bool.and_eq_true] at hB
  obtain ⟨R, hl, hf, hall⟩ := ob_all l lss [] h
  simp only [List.append_nil] at hf hall
  refine wp_region_any hm (rel_any (N := a.tmps.size) (lss := lss) (R := R) hB.1 rfl (fun i o ls ho hls => hall i o ls (by simpa using ho) hls) (by simpa using hl) hrefl ?_ _ _ _ _ ?_ ?_)
  · intro a' w' inv
    have hk := hf (fun t => a'.eval (.tmp t)) w' inv.cls
    have hq := endSeen_intro hk fun d t hm => by
      have := List.all_eq_true.1 hB.2 _ hm
      simp only [Bool.and_eq_true, decide_eq_true_eq] at this
      obtain ⟨o, ho, hd⟩ := writesB_spec this.2
      have hf := inv.facts _ o t ho hd (by
        have := (Array.getElem?_eq_some_iff.1 ho).1
        simp only [Array.getD_eq_getD_getElem?]
        rw [Array.getElem?_replicate, if_pos this]
        rfl)
      have e : R.reverse.getD d (fun _ _ => True) = R.getD (l.length - 1 - d) (fun _ _ => True) := by
        simp only [List.getD_eq_getElem?_getD]
        rw [List.getElem?_reverse (by omega), hl]
      rw [e]
      exact hf
    have e : (⟨writeAll l (fun t => a'.eval (.tmp t)) a.tmps, a.defers⟩ : Act) = a' := by
      obtain ⟨t', d'⟩ := a'
      have h1 := inv.size
      have h2 := inv.defers
      dsimp only at h1 h2 ⊢
      congr 1
      · apply Array.ext
        · rw [writeAll_size, h1]
        · intro s hs1 hs2
          apply Option.some.inj
          rw [← Array.getElem?_eq_getElem hs1, ← Array.getElem?_eq_getElem hs2]
          have hsa : s < a.tmps.size := by rw [← h1]; exact hs2
          have ev : (⟨t', d'⟩ : Act).eval (.tmp s) = t'[s] := by simp [Act.eval, hs2]
          by_cases hx : ∃ o ∈ l, o.dst = some s
          · rw [writeAll_some l _ hsa (.inr hx), ev, Array.getElem?_eq_getElem hs2]
          · rw [writeAll_none l _ (fun o ho he => hx ⟨o, ho, he⟩)]
            have := inv.olds s (fun j hw => by
              obtain ⟨o, ho, hd⟩ := writesB_spec hw
              exact absurd ⟨o, List.mem_of_getElem? (by simpa using ho), hd⟩ hx)
            rw [ev] at this
            rw [Array.getElem?_eq_getElem hs2, this]
            simp [Act.eval, hsa]
      · exact h2.symm
    rw [e] at hq
    exact hq
  · simp
  · refine ⟨hC, rfl, rfl, by simp, fun j o t _ _ hj => ?_, fun _ _ => rfl, fun j k hj => ?_⟩
    · rw [Array.getD_eq_getD_getElem?, Array.getElem?_replicate] at hj
      split at hj <;> simp at hj
    · rw [Array.getD_eq_getD_getElem?, Array.getElem?_replicate] at hj
      split at hj <;> simp at hj

/-! The worlds beyond U; what no later operation breaks: what a call lays anew. -/
def ClB (U W : World) : Prop := Below U.heap.size U W
def StB (W W' : World) : Prop := Below W.heap.size W W'
theorem ClB.step {U W W' : World} (h : ClB U W) (k : StB W W') : ClB U W' := bchain h k
/-- An operation of one value. -/
theorem ob_det {P : Program} {C : World → Prop} {St : World → World → Prop} {a0 : Act} {fin : List Rel → Prop} {o : Oper} {os : List Oper} {ls : Looks} {lss : List Looks} {known : List Rel} {c : Value}
    (h : ∀ ρ w, Consts ρ → C w → seen a0 known ρ w ls.1 (obOp P C St o ls.2 (fun v _ => v = c) ρ w)) (k : obFrom P C St a0 fin os lss ((fun v _ => v = c) :: known)) : obFrom P C St a0 fin (o :: os) (ls :: lss) known :=
  ⟨_, fun _ _ _ h _ => h, h, k⟩
theorem rel_value {P : Program} {U W : World} {c : Value} {r : Result Next} (h : r = .ok (.value c) W) (hC : ClB U W) : relUpon P (ClB U) StB W (fun v _ => v = c) r := by
  rw [h]; exact ⟨hC, Below.refl _ _, rfl⟩
theorem rel_call {P : Program} {U W : World} {c : Value} {r : Result Next} {f : FuncId} {args : Array Value} (h : r = .ok (.enter f args) W) (hC : ClB U W) (hc : Calls P f args W fun e w' => e = .returned c ∧ Below W.heap.size W w') : relUpon P (ClB U) StB W (fun v _ => v = c) r := by
  rw [h]; exact hc.mono fun e w' ⟨he, hb⟩ => ⟨c, he, hC.step hb, hb, rfl⟩
theorem rel_enter {P : Program} {U W : World} {T : Rel} {r : Result Next} {f : FuncId} {args : Array Value} (h : r = .ok (.enter f args) W) (hc : Calls P f args W fun e w' => ∃ v, e = .returned v ∧ ClB U w' ∧ StB W w' ∧ T v w') : relUpon P (ClB U) StB W T r := by
  rw [h]; exact hc
/-- The law at the worlds beyond the one at hand. -/
theorem wp_region_rel_below {P : Program} {id : Nat} {Q : Exit → Act → World → Prop} {a : Act} {w : World} {l : List Oper} (lss : List Looks) (es : List (Nat × Nat)) (hm : P.follows .mixedOrders = true)
    (hB : (relB l.toArray a.tmps.size lss && es.all fun e => decide (e.1 < l.length) && writesB l.toArray (l.length - 1 - e.1) e.2) = true)
    (h : obFrom P (ClB w) StB a (fun K => ∀ (vs : Nat → Value) (w' : World), ClB w w' → endSeen K vs w' es (Q .normal ⟨writeAll l vs a.tmps, a.defers⟩ w')) l lss []) : (Code.region id l.toArray true).wp P Q a w :=
  wp_region_rel (ClB w) StB lss es hm hB (fun _ => Below.refl _ _) ((Below.refl _ _).drew) h

end Go.Proofs.YtkphihbimdffjaaDoor
