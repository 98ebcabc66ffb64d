/-
  LayoutOne's plain law: with one number out of its bounds a layout is not right.
-/
import Derived.Test.YtkphihbimdffjaaDoorRef6e
import Derived.Test.YtkphihbimdffjaaDoorRef6f
namespace Go.Proofs.YtkphihbimdffjaaDoor
open Go.RowKit Go.Shelf

def setS (L : Lay) (a : Nat) (c : Sec) : Lay := ⟨L.secs.set a c, L.sigs, L.exits, L.flanks, L.t0, L.t1, L.t2, L.t3, L.t4, L.t5, L.t6⟩
def addG (L : Lay) (x : Prt) : Lay := ⟨L.secs, L.sigs ++ [x], L.exits, L.flanks, L.t0, L.t1, L.t2, L.t3, L.t4, L.t5, L.t6⟩
def addE (L : Lay) (x : Ext') : Lay := ⟨L.secs, L.sigs, L.exits ++ [x], L.flanks, L.t0, L.t1, L.t2, L.t3, L.t4, L.t5, L.t6⟩
def addF (L : Lay) (x : Flk) : Lay := ⟨L.secs, L.sigs, L.exits, L.flanks ++ [x], L.t0, L.t1, L.t2, L.t3, L.t4, L.t5, L.t6⟩
theorem not_same {L M : Lay} (h : rightL L = true) (h' : rightL M = false) : sameL L M = false := by
  cases e : sameL L M with
  | false => rfl
  | true =>
    obtain ⟨e1, e2, e3, e4, e5⟩ := (same_iff L M).1 e
    obtain ⟨a, b, c, d, t0, t1, t2, t3, t4, t5, t6⟩ := L
    obtain ⟨a', b', c', d', t0', t1', t2', t3', t4', t5', t6'⟩ := M
    simp only [Lay.times, List.cons.injEq] at e1
    obtain ⟨rfl, rfl, rfl, rfl, rfl, rfl, rfl, _⟩ := e1
    dsimp only at e2 e3 e4 e5
    subst e2 e3 e4 e5
    rw [h] at h'
    cases h'
theorem no_secs {L : Lay} {a : Nat} {c : Sec} (ha : a < L.secs.length) (h : rightT c = false) : rightL (setS L a c) = false := by
  rw [← rightR_eq]
  refine (rightR_facts _).1 a c (by simp [setS, ha]) ?_
  unfold secR
  rw [h]
  simp
theorem has_far {L : Lay} {s q : Int} (h : ¬ (0 ≤ s ∧ s < L.secs.length)) : hasB L s q = false := by
  unfold hasB atO
  rw [secAt_none h]
  rfl
theorem no_join {L : Lay} {a : Nat} {c : Sec} (ha : a < L.secs.length) (h : (L.secs.length : Int) ≤ c.s0) : rightL (setS L a c) = false := by
  rw [← rightR_eq]
  refine (rightR_facts _).1 a c (by simp [setS, ha]) ((secR_facts _ c).1 0 (by omega) ?_)
  unfold jokT
  rw [has_far (by show ¬ (0 ≤ c.s0 ∧ c.s0 < ((L.secs.set a c).length : Int)); rw [List.length_set]; omega), Bool.or_false, decide_eq_false_iff_not]
  show ¬ c.s0 < 0
  omega
theorem kPorts_two {c : Sec} (h : rightT c = true) : 2 ≤ kPorts c.k := by
  unfold rightT at h
  simp only [Bool.and_eq_true] at h
  have h1 := h.1.1
  unfold kPorts at h1 ⊢
  split
  · omega
  split
  · omega
  split
  · omega
  · rename_i a b d
    simp [a, b, d] at h1
theorem sec_right {L : Lay} (h : rightL L = true) {a : Nat} {c : Sec} (hc : L.secs[a]? = some c) : rightT c = true := by
  unfold rightL at h
  simp only [Bool.and_eq_true, List.all_eq_true] at h
  exact h.1.1.1.2 c (List.mem_of_getElem? hc)
theorem bad_kind (c : Sec) : rightT { c with k := 4 } = false := by simp [rightT, kPorts]
theorem bad_join {c : Sec} (hk : 2 ≤ kPorts c.k) {s q : Int} (h : mayT s q = false) : rightT { c with s1 := s, p1 := q } = false :=
  (rightT_facts _).1 1 (by omega) (by
    unfold portT
    rw [if_pos (by show ((1 : Nat) : Int) < kPorts c.k; omega)]
    exact h)
theorem bad_class0 (c : Sec) {n : Int} (h : 3 < n) : rightT { c with c0 := n } = false :=
  (rightT_facts _).2.1 0 (by omega) (by
    unfold classT
    have : decide (({ c with c0 := n } : Sec).C 0 ≤ 3) = false := decide_eq_false (by show ¬ n ≤ 3; omega)
    rw [this]
    simp)
theorem bad_class1 (c : Sec) {n : Int} (h : n < 0) : rightT { c with c1 := n } = false :=
  (rightT_facts _).2.1 1 (by omega) (by
    unfold classT
    have : decide (0 ≤ ({ c with c1 := n } : Sec).C 1) = false := decide_eq_false (by show ¬ 0 ≤ n; omega)
    rw [this]
    simp)
theorem no_times {L : Lay} {t : Int} (ht : t ∈ L.times) (h : t < 1 ∨ 1000 < t) : rightL L = false := by
  have e : timesT L = false := by
    unfold timesT
    rw [List.all_eq_false]
    refine ⟨t, ht, ?_⟩
    simp
    omega
  unfold rightL
  rw [e]
  simp
theorem no_sig {L : Lay} {s q : Int} (h : 4 ≤ q ∨ q < 0) : rightL (addG L ⟨s, q⟩) = false := by
  rw [← rightR_eq]
  refine (rightR_facts _).2.1 L.sigs.length ⟨s, q⟩ (by simp [addG]) ?_
  show (atO _ s q).isSome = false
  unfold atO
  cases secAt (addG L ⟨s, q⟩) s with
  | none => rfl
  | some c =>
    have : kPorts c.k ≤ 4 := by rcases kCases c.k with h | h | h | h <;> omega
    rw [Option.bind_some, if_neg (by omega)]
    rfl
theorem pairs_same (k : Int) : wayB k 0 0 = false := by
  unfold wayB wayF
  rcases kCases k with ⟨rfl, _⟩ | ⟨rfl, _⟩ | ⟨rfl, _⟩ | h
  · decide
  · decide
  · decide
  · simp [pairs, prs, h]
theorem no_over {L : Lay} {a : Nat} {s p : Int} : rightL (addE L ⟨s, p, [⟨a, 0, 0⟩]⟩) = false := by
  rw [← rightR_eq]
  refine (rightR_facts _).2.2.1 L.exits.length ⟨s, p, [⟨a, 0, 0⟩]⟩ (by simp [addE]) ?_
  have h0 : ∀ M : Lay, stepB M a 0 0 = false := fun M => by
    unfold stepB
    cases secAt M a with
    | none => rfl
    | some c => exact pairs_same c.k
  unfold exitR
  simp [h0]
theorem no_exit {L : Lay} {p : Int} {o : List Stp} : rightL (addE L ⟨-1, p, o⟩) = false := by
  rw [← rightR_eq]
  refine (rightR_facts _).2.2.1 L.exits.length ⟨-1, p, o⟩ (by simp [addE]) ?_
  unfold exitR
  rw [has_far (by show ¬ ((0 : Int) ≤ -1 ∧ _); omega)]
  simp
theorem no_flank {L : Lay} {a x y : Int} : rightL (addF L ⟨a, x, a, y⟩) = false := by
  rw [← rightR_eq]
  refine (rightR_facts _).2.2.2.1 L.flanks.length ⟨a, x, a, y⟩ (by simp [addF]) ?_
  unfold flankT
  rw [decide_eq_false_iff_not]
  exact fun h => h.2.2.1 rfl
end Go.Proofs.YtkphihbimdffjaaDoor
