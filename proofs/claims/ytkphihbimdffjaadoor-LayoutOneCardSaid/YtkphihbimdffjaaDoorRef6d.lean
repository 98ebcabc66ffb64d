/-
  lockbarref06.flank.
-/
import Derived.Test.YtkphihbimdffjaaDoorRef6c
namespace Go.Proofs.YtkphihbimdffjaaDoor
open Go.RowKit Go.Shelf

set_option maxRecDepth 100000 in
set_option maxHeartbeats 8000000 in
theorem rFlank_any (L : Lay) (p : Where) (f : Flk) (w : World) (hL : LayAt w p L) :
    Calls Tryd.prog 48 #[L.val p, .agg f.enc.toArray] w fun e w' => e = .returned (.bool (flankT L f)) ∧ Below w.heap.size w w' := by
  obtain ⟨s, way, pt, pos⟩ := f
  unfold Flk.enc
  have hr : flankT L ⟨s, way, pt, pos⟩ = true ↔ flankP L s way pt pos := decide_eq_true_iff
  generalize flankT L ⟨s, way, pt, pos⟩ = r at hr ⊢
  unfold flankP at hr
  have HR := Lib.hid hr
  have m0 : L.secs.length ≤ 9223372036854775807 := Nat.le_trans hL.l0.1 hL.l0.2
  have HL := Lib.hid hL
  clear hr hL
  obtain ⟨a0, a1, a2, a3, p0, p1, p2, p3⟩ := p
  unfold Lay.val
  dsimp only
  by_cases g1 : s < 0
  · have d1 : decide (s < 0) = true := decide_eq_true g1
    have e : r = false := by
      have h := HR.out
      cases r
      · rfl
      · have := of_decide_eq_true (h.1 rfl).1; omega
    subst e
    clear HR
    go_enter Tryd.func48, Tryd.ntmps48
    go_wp2
    go_ret
    exact ⟨rfl, bchain bself bself⟩
  have d1 : decide (s < 0) = false := decide_eq_false g1
  obtain ⟨n1, rfl⟩ : ∃ n : Nat, s = (n : Int) := ⟨s.toNat, by omega⟩
  by_cases g2 : L.secs.length ≤ n1
  · have d2 : decide (L.secs.length ≤ n1) = true := decide_eq_true g2
    have e : r = false := by
      have h := HR.out
      cases r
      · rfl
      · have := of_decide_eq_true (h.1 rfl).1; omega
    subst e
    clear HR
    go_enter Tryd.func48, Tryd.ntmps48
    go_wp2
    go_ret
    exact ⟨rfl, bchain bself bself⟩
  have d2 : decide (L.secs.length ≤ n1) = false := decide_eq_false g2
  by_cases g3 : pt < 0
  · have d3 : decide (pt < 0) = true := decide_eq_true g3
    have e : r = false := by
      have h := HR.out
      cases r
      · rfl
      · have := of_decide_eq_true (h.1 rfl).2.1; omega
    subst e
    clear HR
    go_enter Tryd.func48, Tryd.ntmps48
    go_wp2
    go_ret
    exact ⟨rfl, bchain bself bself⟩
  have d3 : decide (pt < 0) = false := decide_eq_false g3
  obtain ⟨n2, rfl⟩ : ∃ n : Nat, pt = (n : Int) := ⟨pt.toNat, by omega⟩
  by_cases g4 : L.secs.length ≤ n2
  · have d4 : decide (L.secs.length ≤ n2) = true := decide_eq_true g4
    have e : r = false := by
      have h := HR.out
      cases r
      · rfl
      · have := of_decide_eq_true (h.1 rfl).2.1; omega
    subst e
    clear HR
    go_enter Tryd.func48, Tryd.ntmps48
    go_wp2
    go_ret
    exact ⟨rfl, bchain bself bself⟩
  have d4 : decide (L.secs.length ≤ n2) = false := decide_eq_false g4
  by_cases g5 : n1 = n2
  · have d5 : (n1 == n2) = true := by simpa using g5
    have e : r = false := by
      have h := HR.out
      cases r
      · rfl
      · exact absurd (congrArg (Nat.cast : Nat → Int) g5) ((h.1 rfl).2.2.1)
    subst e
    clear HR
    clear d1 d2 g1 g2
    subst g5
    go_enter Tryd.func48, Tryd.ntmps48
    go_wp2
    go_ret
    exact ⟨rfl, bchain bself bself⟩
  have d5 : ((n1 : Int) == (n2 : Int)) = false := by simp; omega
  have d5' : ¬ (n1 : Int) = (n2 : Int) := by omega
  by_cases g6 : pos < 0
  · have d6 : decide (pos < 0) = true := decide_eq_true g6
    have e : r = false := by
      have h := HR.out
      cases r
      · rfl
      · have := (h.1 rfl).2.2.2.1; omega
    subst e
    clear HR
    go_enter Tryd.func48, Tryd.ntmps48
    go_wp2
    go_ret
    exact ⟨rfl, bchain bself bself⟩
  have d6 : decide (pos < 0) = false := decide_eq_false g6
  by_cases g7 : 1 < pos
  · have d7 : decide ((1 : Int) < pos) = true := decide_eq_true g7
    have e : r = false := by
      have h := HR.out
      cases r
      · rfl
      · have := (h.1 rfl).2.2.2.2.1; omega
    subst e
    clear HR
    go_enter Tryd.func48, Tryd.ntmps48
    go_wp2
    go_ret
    exact ⟨rfl, bchain bself bself⟩
  have d7 : decide ((1 : Int) < pos) = false := decide_eq_false g7
  obtain ⟨c1, hc1⟩ : ∃ c, L.secs[n1]? = some c := ⟨_, List.getElem?_eq_getElem (by omega)⟩
  obtain ⟨c2, hc2⟩ : ∃ c, L.secs[n2]? = some c := ⟨_, List.getElem?_eq_getElem (by omega)⟩
  obtain ⟨bS, off, hAe, hbS, q1⟩ := kind_cell HL.out (by omega) hc1
  obtain ⟨bS', off', hAe', _, q2⟩ := kind_cell HL.out (by omega) hc2
  dsimp only at hAe hAe'
  subst hAe
  simp only [Option.some.injEq, Addr.mk.injEq, and_true] at hAe'
  obtain ⟨rfl, rfl⟩ := hAe'
  have ek1 : secK L (n1 : Int) = c1.k := by
    unfold secK secAt
    rw [if_pos (by omega), Int.toNat_natCast, hc1]
  have ek2 : secK L (n2 : Int) = c2.k := by
    unfold secK secAt
    rw [if_pos (by omega), Int.toNat_natCast, hc2]
  have hw := fun w1 => rWays_any c1.k w1
  obtain ⟨m, hm⟩ : ∃ m, m = kMany c1.k := ⟨_, rfl⟩
  have hR := HR.out
  rw [ek1, ek2, ← hm] at hR
  rw [← hm] at hw
  generalize c1.k = k1 at q1 hw
  generalize c2.k = k2 at q2 hR
  have e : r = (decide (0 ≤ way) && (decide (way < m) && decide (k2 = 2))) := by
    rw [Bool.eq_iff_iff, hR]
    simp only [Bool.and_eq_true, decide_eq_true_eq]
    constructor
    · intro q; exact ⟨q.2.2.2.2.2.1, q.2.2.2.2.2.2.1, q.2.2.2.2.2.2.2⟩
    · intro q; exact ⟨decide_eq_true (by omega), decide_eq_true (by omega), fun e => g5 (by omega), by omega, by omega, q.1, q.2.1, q.2.2⟩
  have HW := Lib.hid hw
  have HE := Lib.hid e
  have lb1 : bS < w.heap.size + 1 := by omega
  have lb2 : bS < w.heap.size + 1 + 1 := by omega
  clear hw e hR HR ek1 ek2 hm hc1 hc2 HL
  have hcase : decide (0 ≤ way) = false ∨ (decide (0 ≤ way) = true ∧ decide (way < m) = false) ∨ (decide (0 ≤ way) = true ∧ decide (way < m) = true) := by
    cases decide (0 ≤ way) <;> cases decide (way < m) <;> simp
  rcases hcase with d8 | ⟨d8, d9⟩ | ⟨d8, d9⟩
  all_goals
    by_cases g10 : k2 = 2
    · subst g10
      go_enter Tryd.func48, Tryd.ntmps48
      go_wp2_with fail
      refine wp_region_ext (by kernel_rfl) (by kernel_rfl) fun hx => ?_
      repeat (go_big_quiet_step ((go_at_call 63; exact Calls.ext (HW.out _))))
      refine wpQuiet_nil ?_
      intro w5 b5
      go_wp2
      go_ret
      exact ⟨by rw [HE.out]; simp [*], bchain (bchain bself bself) b5⟩
    · have d10 : (k2 == 2) = false := by simpa using g10
      go_enter Tryd.func48, Tryd.ntmps48
      go_wp2_with fail
      refine wp_region_ext (by kernel_rfl) (by kernel_rfl) fun hx => ?_
      repeat (go_big_quiet_step ((go_at_call 63; exact Calls.ext (HW.out _))))
      refine wpQuiet_nil ?_
      intro w5 b5
      go_wp2
      go_ret
      exact ⟨by rw [HE.out]; simp [*], bchain (bchain bself bself) b5⟩
end Go.Proofs.YtkphihbimdffjaaDoor
