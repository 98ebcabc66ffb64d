/-
  layout.Step; lockbarref06.there, Step.
-/
import Derived.Test.YtkphihbimdffjaaDoorLay1
namespace Go.Proofs.YtkphihbimdffjaaDoor
open Go.RowKit Go.Shelf

set_option maxRecDepth 100000 in
set_option maxHeartbeats 2000000 in
theorem step_none (L : Lay) (p : Where) (s i o : Int) (w : World) (hs : isSec L s = false) :
    Calls Tryd.prog 12 #[L.val p, .agg #[.int .i64 s, .int .i64 i, .int .i64 o]] w fun e w' => e = .returned (.tuple #[.int .i64 0, .bool false]) ∧ Below w.heap.size w w' := by
  have hc := fun w1 => section_any L p s w1
  rw [hs] at hc
  have HC := Lib.hid hc
  clear hc hs
  unfold Lay.val
  go_enter Tryd.func12, Tryd.ntmps12
  go_wp2_with fail
  (with_reducible refine (HC.out _).mono ?_)
  rintro e w1 ⟨rfl, b1⟩
  go_wp2
  go_ret2
  exact ⟨rfl, bchain (bchain bself bself) b1⟩

set_option maxRecDepth 100000 in
set_option maxHeartbeats 2000000 in
theorem step_some (L : Lay) (p : Where) (n : Nat) (c : Sec) (i o : Int) (w : World) (hL : LayAt w p L) (K : Kinds w) (hn : n < L.secs.length) (hc : L.secs[n]? = some c) :
    Calls Tryd.prog 12 #[L.val p, .agg #[.int .i64 n, .int .i64 i, .int .i64 o]] w fun e w' => e = .returned (.tuple #[.int .i64 (wayN c.k i o), .bool (wayB c.k i o)]) ∧ Below w.heap.size w w' := by
  have hs := fun w1 => section_any L p n w1
  rw [show isSec L n = true from decide_eq_true (by omega)] at hs
  obtain ⟨a0, a1, a2, a3, p0, p1, p2, p3⟩ := p
  obtain ⟨b, off, e0, hrow⟩ := hL.secs.get hn
  dsimp only at e0
  subst e0
  have l0 := hrow.1
  have l1 : b < w.heap.size + 1 := by omega
  have l2 : b < w.heap.size + 1 + 1 := by omega
  have l3 : b < w.heap.size + 1 + 1 + 1 := by omega
  obtain ⟨k0, k1, k2, k3, k4, k5, k6, k7, k8, k9, k10⟩ := sec_cells hrow hc
  have hk := hL.kinds c (List.mem_of_getElem? hc)
  have hp := fun w1 (K1 : Kinds w1) => way_any c.k i o hk.1 hk.2 w1 K1
  have HS := Lib.hid hs
  have HP := Lib.hid hp
  have KH := Lib.hid K
  have hln : n < L.secs.length := hn
  clear hs hp hc hk hrow K hL
  unfold Lay.val
  go_enter Tryd.func12, Tryd.ntmps12
  go_wp2_with fail
  (with_reducible refine (HS.out _).mono ?_)
  rintro e w1 ⟨rfl, b1⟩
  obtain ⟨hc, hf, hz⟩ := bcell b1
  have lz : b < w1.heap.size := hz _ (by simp <;> omega)
  have z0 : w.heap.size < w1.heap.size := hz _ (by simp <;> omega)
  have z1 : w.heap.size + 1 < w1.heap.size := hz _ (by simp <;> omega)
  have B := bchain (bchain (bself (w := w) (o := _)) bself) b1
  have HB := Lib.hid B
  clear b1 hz B
  go_wp2_with fail
  refine wp_region_ext (by kernel_rfl) (by kernel_rfl) fun hx => ?_
  repeat (go_big_quiet_step ((go_at_call 29; exact Calls.ext (HP.out _ (KH.out.below (bchain HB.out (Ext.below _)))))))
  refine wpQuiet_nil ?_
  intro w5 b5
  go_wp2
  go_ret2
  exact ⟨rfl, bchain HB.out b5⟩

set_option maxRecDepth 100000 in
set_option maxHeartbeats 2000000 in
theorem rStep_none (L : Lay) (p : Where) (s i o : Int) (w : World) (hs : isSec L s = false) :
    Calls Tryd.prog 13 #[L.val p, .agg #[.int .i64 s, .int .i64 i, .int .i64 o]] w fun e w' => e = .returned (.tuple #[.int .i64 0, .bool false]) ∧ Below w.heap.size w w' := by
  have hs2 : s < 0 ∨ (¬ s < 0 ∧ (L.secs.length : Int) ≤ s) := by
    have := of_decide_eq_false hs
    omega
  clear hs
  unfold Lay.val
  rcases hs2 with h | ⟨h, h2⟩
  · have hd : decide (s < 0) = true := decide_eq_true h
    go_enter Tryd.func13, Tryd.ntmps13
    go_wp2
    go_ret2
    exact ⟨rfl, bchain bself bself⟩
  · have hd : decide (s < 0) = false := decide_eq_false h
    have hd2 : decide ((L.secs.length : Int) ≤ s) = true := decide_eq_true h2
    go_enter Tryd.func13, Tryd.ntmps13
    go_wp2
    go_ret2
    exact ⟨rfl, bchain bself bself⟩

set_option maxRecDepth 100000 in
set_option maxHeartbeats 2000000 in
theorem rStep_some (L : Lay) (p : Where) (n : Nat) (c : Sec) (i o : Int) (w : World) (hL : LayAt w p L) (hn : n < L.secs.length) (hc : L.secs[n]? = some c) :
    Calls Tryd.prog 13 #[L.val p, .agg #[.int .i64 n, .int .i64 i, .int .i64 o]] w fun e w' => e = .returned (.tuple #[.int .i64 (wayN c.k i o), .bool (wayB c.k i o)]) ∧ Below w.heap.size w w' := by
  obtain ⟨a0, a1, a2, a3, p0, p1, p2, p3⟩ := p
  obtain ⟨b, off, e0, hrow⟩ := hL.secs.get hn
  dsimp only at e0
  subst e0
  have l0 := hrow.1
  have l1 : b < w.heap.size + 1 := by omega
  have l2 : b < w.heap.size + 1 + 1 := by omega
  have l3 : b < w.heap.size + 1 + 1 + 1 := by omega
  obtain ⟨k0, k1, k2, k3, k4, k5, k6, k7, k8, k9, k10⟩ := sec_cells hrow hc
  have hk := hL.kinds c (List.mem_of_getElem? hc)
  have hp := fun w1 => rWay_any c.k i o w1
  have HP := Lib.hid hp
  have hln : n < L.secs.length := hn
  have hds : decide ((n : Int) < 0) = false := decide_eq_false (by omega)
  have hds2 : decide (L.secs.length ≤ n) = false := decide_eq_false (by omega)
  clear hp hc hk hrow hL
  unfold Lay.val
  go_enter Tryd.func13, Tryd.ntmps13
  go_wp2_with fail
  refine wp_region_ext (by kernel_rfl) (by kernel_rfl) fun hx => ?_
  repeat (go_big_quiet_step ((go_at_call 25; exact Calls.ext (HP.out _))))
  refine wpQuiet_nil ?_
  intro w5 b5
  go_wp2
  go_ret2
  exact ⟨rfl, bchain (bchain bself bself) b5⟩

theorem step_cases (L : Lay) (s i o : Int) : (isSec L s = false ∧ stepN L s i o = 0 ∧ stepB L s i o = false) ∨ ∃ (n : Nat) (c : Sec), s = (n : Int) ∧ n < L.secs.length ∧ L.secs[n]? = some c ∧ c ∈ L.secs ∧ stepN L s i o = wayN c.k i o ∧ stepB L s i o = wayB c.k i o := by
  by_cases h : 0 ≤ s ∧ s < L.secs.length
  · obtain ⟨n, c, e, hn, hc, hs, hm⟩ := secAt_some h
    refine .inr ⟨n, c, e, hn, hc, hm, ?_⟩
    unfold stepN stepB
    rw [hs]
    exact ⟨rfl, rfl⟩
  · refine .inl ⟨decide_eq_false h, ?_⟩
    unfold stepN stepB
    rw [secAt_none h]
    exact ⟨rfl, rfl⟩
theorem step_any (L : Lay) (p : Where) (s i o : Int) (w : World) (hL : LayAt w p L) (K : Kinds w) :
    Calls Tryd.prog 12 #[L.val p, .agg #[.int .i64 s, .int .i64 i, .int .i64 o]] w fun e w' => e = .returned (.tuple #[.int .i64 (stepN L s i o), .bool (stepB L s i o)]) ∧ Below w.heap.size w w' := by
  rcases step_cases L s i o with ⟨h, e, f⟩ | ⟨n, c, rfl, hn, hc, _, e, f⟩
  · rw [e, f]; exact step_none L p s i o w h
  · rw [e, f]; exact step_some L p n c i o w hL K hn hc
theorem rStep_any (L : Lay) (p : Where) (s i o : Int) (w : World) (hL : LayAt w p L) :
    Calls Tryd.prog 13 #[L.val p, .agg #[.int .i64 s, .int .i64 i, .int .i64 o]] w fun e w' => e = .returned (.tuple #[.int .i64 (stepN L s i o), .bool (stepB L s i o)]) ∧ Below w.heap.size w w' := by
  rcases step_cases L s i o with ⟨h, e, f⟩ | ⟨n, c, rfl, hn, hc, _, e, f⟩
  · rw [e, f]; exact rStep_none L p s i o w h
  · rw [e, f]; exact rStep_some L p n c i o w hL hn hc

/-- Is the port there? -/
def hasB (L : Lay) (s q : Int) : Bool := (atO L s q).isSome
set_option maxRecDepth 100000 in
set_option maxHeartbeats 2000000 in
theorem rThere_any (L : Lay) (p : Where) (s q : Int) (w : World) (hL : LayAt w p L) :
    Calls Tryd.prog 46 #[L.val p, .agg #[.int .i64 s, .int .i64 q]] w fun e w' => e = .returned (.bool (hasB L s q)) ∧ Below w.heap.size w w' := by
  have ha := fun w1 (L1 : LayAt w1 p L) => rAt_any L p s q w1 L1
  unfold atV at ha
  unfold hasB
  obtain ⟨x, hx⟩ : ∃ x, x = (atO L s q).getD zeroSec := ⟨_, rfl⟩
  obtain ⟨y, hy⟩ : ∃ y, y = (atO L s q).isSome := ⟨_, rfl⟩
  rw [← hx, ← hy] at ha
  rw [← hy]
  unfold Sec.enc at ha
  have HA := Lib.hid ha
  have HL := Lib.hid hL
  clear ha hx hy hL
  unfold Lay.val
  go_enter Tryd.func46, Tryd.ntmps46
  go_wp2_with fail
  (with_reducible refine (HA.out _ (HL.out.below (bchain bself bself))).mono ?_)
  rintro e w1 ⟨rfl, b1⟩
  go_wp2
  go_ret
  exact ⟨rfl, bchain (bchain (bchain bself bself) b1) bself⟩
end Go.Proofs.YtkphihbimdffjaaDoor
