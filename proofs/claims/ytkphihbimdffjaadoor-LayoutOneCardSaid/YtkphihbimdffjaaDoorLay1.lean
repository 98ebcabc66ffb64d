/-
  layout.section, At, Step; lockbarref06.At, there, Step.
-/
import Derived.Test.YtkphihbimdffjaaDoorLay
import Derived.Test.YtkphihbimdffjaaDoorRef5
namespace Go.Proofs.YtkphihbimdffjaaDoor
open Go.RowKit Go.Shelf

abbrev Lay.val (L : Lay) (p : Where) : Value :=
  .agg #[.slice p.a0 L.secs.length p.c0, .slice p.a1 L.sigs.length p.c1, .slice p.a2 L.exits.length p.c2, .slice p.a3 L.flanks.length p.c3, .int .i64 L.t0, .int .i64 L.t1, .int .i64 L.t2, .int .i64 L.t3, .int .i64 L.t4, .int .i64 L.t5, .int .i64 L.t6]

def isSec (L : Lay) (s : Int) : Bool := decide (0 ≤ s ∧ s < L.secs.length)
theorem section_any (L : Lay) (p : Where) (s : Int) (w : World) :
    Calls Tryd.prog 27 #[L.val p, .int .i64 s] w fun e w' => e = .returned (.bool (isSec L s)) ∧ Below w.heap.size w w' := by
  unfold Lay.val
  by_cases h0 : 0 ≤ s
  · by_cases h1 : s < L.secs.length
    · rw [show isSec L s = true from decide_eq_true ⟨h0, h1⟩]
      go_enter Tryd.func27, Tryd.ntmps27
      go_wp2
      go_ret
      exact ⟨rfl, bself⟩
    · rw [show isSec L s = false from decide_eq_false (fun h => h1 h.2)]
      go_enter Tryd.func27, Tryd.ntmps27
      go_wp2
      go_ret
      exact ⟨rfl, bself⟩
  · rw [show isSec L s = false from decide_eq_false (fun h => h0 h.1)]
    go_enter Tryd.func27, Tryd.ntmps27
    go_wp2
    go_ret
    exact ⟨rfl, bself⟩

/-- The section of a port, as it is told. -/
def atV (o : Option Sec) : Value := .tuple #[.agg (o.getD zeroSec).enc.toArray, .bool o.isSome]

/-- A section's cells, as the walk asks for them. -/
theorem sec_cells {W : World} {b off n : Nat} {xs : List Sec} {c : Sec} (h : RowAt' W 11 Sec.enc b off xs) (hc : xs[n]? = some c) :
    W.cell? ⟨b, off + n * 11, none⟩ = some (.int .u8 c.k) ∧ W.cell? ⟨b, off + n * 11 + 1, none⟩ = some (.int .i64 c.s0) ∧ W.cell? ⟨b, off + n * 11 + 2, none⟩ = some (.int .i64 c.p0) ∧ W.cell? ⟨b, off + n * 11 + 3, none⟩ = some (.int .i64 c.s1) ∧ W.cell? ⟨b, off + n * 11 + 4, none⟩ = some (.int .i64 c.p1) ∧
    W.cell? ⟨b, off + n * 11 + 5, none⟩ = some (.int .i64 c.s2) ∧ W.cell? ⟨b, off + n * 11 + 6, none⟩ = some (.int .i64 c.p2) ∧ W.cell? ⟨b, off + n * 11 + 7, none⟩ = some (.int .i64 c.s3) ∧ W.cell? ⟨b, off + n * 11 + 8, none⟩ = some (.int .i64 c.p3) ∧ W.cell? ⟨b, off + n * 11 + 9, none⟩ = some (.int .i64 c.c0) ∧ W.cell? ⟨b, off + n * 11 + 10, none⟩ = some (.int .i64 c.c1) :=
  ⟨h.2 n c hc 0 _ rfl, h.2 n c hc 1 _ rfl, h.2 n c hc 2 _ rfl, h.2 n c hc 3 _ rfl, h.2 n c hc 4 _ rfl, h.2 n c hc 5 _ rfl, h.2 n c hc 6 _ rfl, h.2 n c hc 7 _ rfl, h.2 n c hc 8 _ rfl, h.2 n c hc 9 _ rfl, h.2 n c hc 10 _ rfl⟩

set_option maxRecDepth 100000 in
set_option maxHeartbeats 2000000 in
theorem at_none (L : Lay) (p : Where) (s q : Int) (w : World) (hs : isSec L s = false) :
    Calls Tryd.prog 10 #[L.val p, .agg #[.int .i64 s, .int .i64 q]] w fun e w' => e = .returned (atV none) ∧ Below w.heap.size w w' := by
  have hc := fun w1 => section_any L p s w1
  rw [hs] at hc
  have HC := Lib.hid hc
  clear hc hs
  unfold Lay.val
  go_enter Tryd.func10, Tryd.ntmps10
  go_wp2_with fail
  refine wp_scope_fwd 0 rfl ?_
  go_wp2_with fail
  refine wp_region_ext (by kernel_rfl) (by kernel_rfl) fun hx => ?_
  repeat (go_big_quiet_step ((go_at_call 27; exact Calls.ext (HC.out _))))
  refine wpQuiet_nil ?_
  intro w5 b5
  obtain ⟨hc, hf, hz⟩ := bcell b5
  have B := bchain (bchain (bchain (bself (w := w) (o := _)) bself) bself) b5
  clear b5 hz
  go_wp2
  refine wp_goto ?_
  refine ⟨rfl, ?_⟩
  go_wp2
  rw [Exit.noGoto_ret]
  refine bodyPost_ret (v := atV none) (by simp [results, Tryd.results10, go_sem, hc, atV, zeroSec, Sec.enc]) rfl ⟨rfl, ?_⟩
  repeat refine Below.setCell ?_ (by dsimp only; omega) _
  exact B

set_option maxRecDepth 100000 in
set_option maxHeartbeats 4000000 in
theorem at_out (L : Lay) (p : Where) (n : Nat) (c : Sec) (q : Int) (w : World) (hL : LayAt w p L) (K : Kinds w) (hn : n < L.secs.length) (hc : L.secs[n]? = some c) (hq : ¬ (0 ≤ q ∧ q < kPorts c.k)) :
    Calls Tryd.prog 10 #[L.val p, .agg #[.int .i64 n, .int .i64 q]] w fun e w' => e = .returned (atV none) ∧ Below w.heap.size w w' := by
  have hs := fun w1 => section_any L p n w1
  rw [show isSec L n = true from decide_eq_true (by omega)] at hs
  obtain ⟨a0, a1, a2, a3, p0, p1, p2, p3⟩ := p
  obtain ⟨b, off, e0, hrow⟩ := hL.secs.get hn
  dsimp only at e0
  subst e0
  have l0 := hrow.1
  have k0 := (sec_cells hrow hc).1
  have hk := hL.kinds c (List.mem_of_getElem? hc)
  have hp := fun w1 (K1 : Kinds w1) => ports_any c.k hk.1 hk.2 w1 K1
  obtain ⟨np, hnp⟩ : ∃ np, np = kPorts c.k := ⟨_, rfl⟩
  obtain ⟨ck, hck⟩ : ∃ ck, ck = c.k := ⟨_, rfl⟩
  rw [← hck] at k0
  rw [← hnp, ← hck] at hp
  rw [← hnp] at hq
  have HS := Lib.hid hs
  have HP := Lib.hid hp
  have KH := Lib.hid K
  have hln : n < L.secs.length := hn
  clear hs hp hc hk hck hnp hrow K hL
  unfold Lay.val
  have hqq : q < 0 ∨ (¬ q < 0 ∧ np ≤ q) := by omega
  clear hq
  rcases hqq with hq | ⟨hq, hq2⟩
  · go_enter Tryd.func10, Tryd.ntmps10
    go_wp2_with fail
    refine wp_scope_fwd 0 rfl ?_
    go_wp2_with fail
    refine wp_region_ext (by kernel_rfl) (by kernel_rfl) fun hx => ?_
    repeat (go_big_quiet_step ((go_at_call 27; exact Calls.ext (HS.out _))))
    refine wpQuiet_nil ?_
    intro w5 b5
    obtain ⟨hc, hf, hz⟩ := bcell b5
    have B := bchain (bchain (bchain (bself (w := w) (o := _)) bself) bself) b5
    clear b5 hz
    go_wp2
    refine wp_goto ?_
    refine ⟨rfl, ?_⟩
    go_wp2
    rw [Exit.noGoto_ret]
    refine bodyPost_ret (v := atV none) (by simp [results, Tryd.results10, go_sem, hc, atV, zeroSec, Sec.enc]) rfl ⟨rfl, ?_⟩
    repeat refine Below.setCell ?_ (by dsimp only; omega) _
    exact B
  · have hd : decide (q < 0) = false := decide_eq_false hq
    have hd2 : decide (np ≤ q) = true := decide_eq_true hq2
    go_enter Tryd.func10, Tryd.ntmps10
    go_wp2_with fail
    refine wp_scope_fwd 0 rfl ?_
    go_wp2_with fail
    refine wp_region_ext (by kernel_rfl) (by kernel_rfl) fun hx => ?_
    have l1 : b < w.heap.size + 1 := by omega
    have l2 : b < w.heap.size + 1 + 1 := by omega
    have l3 : b < w.heap.size + 1 + 1 + 1 := by omega
    repeat (go_big_quiet_step (first | (go_at_call 27; exact Calls.ext (HS.out _)) | (go_at_call 28; exact Calls.ext (HP.out _ (KH.out.below (bchain (bchain (bchain bself bself) bself) (Ext.below _)))))))
    refine wpQuiet_nil ?_
    intro w5 b5
    obtain ⟨hc, hf, hz⟩ := bcell b5
    have B := bchain (bchain (bchain (bself (w := w) (o := _)) bself) bself) b5
    clear b5 hz
    go_wp2
    refine wp_goto ?_
    refine ⟨rfl, ?_⟩
    go_wp2
    rw [Exit.noGoto_ret]
    refine bodyPost_ret (v := atV none) (by simp [results, Tryd.results10, go_sem, hc, atV, zeroSec, Sec.enc]) rfl ⟨rfl, ?_⟩
    repeat refine Below.setCell ?_ (by dsimp only; omega) _
    exact B

set_option maxRecDepth 100000 in
set_option maxHeartbeats 4000000 in
theorem at_some (L : Lay) (p : Where) (n : Nat) (c : Sec) (q : Int) (w : World) (hL : LayAt w p L) (K : Kinds w) (hn : n < L.secs.length) (hc : L.secs[n]? = some c) (hq0 : 0 ≤ q) (hq : q < kPorts c.k) :
    Calls Tryd.prog 10 #[L.val p, .agg #[.int .i64 n, .int .i64 q]] w fun e w' => e = .returned (atV (some c)) ∧ Below w.heap.size w w' := by
  have hs := fun w1 => section_any L p n w1
  rw [show isSec L n = true from decide_eq_true (by omega)] at hs
  obtain ⟨a0, a1, a2, a3, p0, p1, p2, p3⟩ := p
  obtain ⟨b, off, e0, hrow⟩ := hL.secs.get hn
  dsimp only at e0
  subst e0
  have l0 := hrow.1
  have l1 : b < w.heap.size + 1 := by omega
  have l2 : b < w.heap.size + 1 + 1 := by omega
  have l3 : b < w.heap.size + 1 + 1 + 1 := by omega
  obtain ⟨k0, k1, k2, k3, k4, k5, k6, k7, k8, k9, k10⟩ := sec_cells hrow hc
  have hk := hL.kinds c (List.mem_of_getElem? hc)
  have hp := fun w1 (K1 : Kinds w1) => ports_any c.k hk.1 hk.2 w1 K1
  obtain ⟨np, hnp⟩ : ∃ np, np = kPorts c.k := ⟨_, rfl⟩
  rw [← hnp] at hp
  rw [← hnp] at hq
  have HS := Lib.hid hs
  have HP := Lib.hid hp
  have KH := Lib.hid K
  have hln : n < L.secs.length := hn
  clear hs hp hc hk hnp hrow K hL
  unfold Lay.val
  have hd : decide (q < 0) = false := decide_eq_false (by omega)
  have hd2 : decide (np ≤ q) = false := decide_eq_false (by omega)
  go_enter Tryd.func10, Tryd.ntmps10
  go_wp2_with fail
  refine wp_scope_fwd 0 rfl ?_
  go_wp2_with fail
  refine wp_region_ext (by kernel_rfl) (by kernel_rfl) fun hx => ?_
  repeat (go_big_quiet_step (first | (go_at_call 27; exact Calls.ext (HS.out _)) | (go_at_call 28; exact Calls.ext (HP.out _ (KH.out.below (bchain (bchain (bchain bself bself) bself) (Ext.below _)))))))
  refine wpQuiet_nil ?_
  intro w5 b5
  obtain ⟨hc, hf, hz⟩ := bcell b5
  have B := bchain (bchain (bchain (bself (w := w) (o := _)) bself) bself) b5
  have l5 : b < w5.heap.size := hz _ (by simp; omega)
  clear b5 hz
  go_wp2
  rw [Exit.fwd_ret]
  refine bodyPost_ret (v := atV (some c)) (by simp [results, Tryd.results10, go_sem, hc, atV, Sec.enc]) rfl ⟨rfl, ?_⟩
  repeat refine Below.setCell ?_ (by dsimp only; omega) _
  exact B

set_option maxRecDepth 100000 in
set_option maxHeartbeats 2000000 in
theorem rAt_none (L : Lay) (p : Where) (s q : Int) (w : World) (hs : isSec L s = false) :
    Calls Tryd.prog 11 #[L.val p, .agg #[.int .i64 s, .int .i64 q]] w fun e w' => e = .returned (atV none) ∧ Below w.heap.size w w' := by
  have hs2 : s < 0 ∨ (¬ s < 0 ∧ (L.secs.length : Int) ≤ s) := by
    have := of_decide_eq_false hs
    omega
  clear hs
  unfold Lay.val
  rcases hs2 with h | ⟨h, h2⟩
  · have hd : decide (s < 0) = true := decide_eq_true h
    go_enter Tryd.func11, Tryd.ntmps11
    go_wp2_with fail
    refine wp_region_ext (by kernel_rfl) (by kernel_rfl) fun hx => ?_
    repeat (go_big_quiet_step (fail))
    refine wpQuiet_nil ?_
    intro w5 b5
    obtain ⟨hc, hf, hz⟩ := bcell b5
    have B := bchain (bchain (bchain (bself (w := w) (o := _)) bself) bself) b5
    clear b5 hz
    go_wp2
    refine bodyPost_ret (v := atV none) (by simp [results, Tryd.results11, go_sem, hc, atV, zeroSec, Sec.enc]) rfl ⟨rfl, ?_⟩
    repeat refine Below.setCell ?_ (by dsimp only; omega) _
    exact B
  · have hd : decide (s < 0) = false := decide_eq_false h
    have hd2 : decide ((L.secs.length : Int) ≤ s) = true := decide_eq_true h2
    go_enter Tryd.func11, Tryd.ntmps11
    go_wp2_with fail
    refine wp_region_ext (by kernel_rfl) (by kernel_rfl) fun hx => ?_
    repeat (go_big_quiet_step (fail))
    refine wpQuiet_nil ?_
    intro w5 b5
    obtain ⟨hc, hf, hz⟩ := bcell b5
    have B := bchain (bchain (bchain (bself (w := w) (o := _)) bself) bself) b5
    clear b5 hz
    go_wp2
    refine bodyPost_ret (v := atV none) (by simp [results, Tryd.results11, go_sem, hc, atV, zeroSec, Sec.enc]) rfl ⟨rfl, ?_⟩
    repeat refine Below.setCell ?_ (by dsimp only; omega) _
    exact B

set_option maxRecDepth 100000 in
set_option maxHeartbeats 4000000 in
theorem rAt_out (L : Lay) (p : Where) (n : Nat) (c : Sec) (q : Int) (w : World) (hL : LayAt w p L) (hn : n < L.secs.length) (hc : L.secs[n]? = some c) (hq : ¬ (0 ≤ q ∧ q < kPorts c.k)) :
    Calls Tryd.prog 11 #[L.val p, .agg #[.int .i64 n, .int .i64 q]] w fun e w' => e = .returned (atV none) ∧ Below w.heap.size w w' := by
  obtain ⟨a0, a1, a2, a3, p0, p1, p2, p3⟩ := p
  obtain ⟨b, off, e0, hrow⟩ := hL.secs.get hn
  dsimp only at e0
  subst e0
  have l0 := hrow.1
  have l1 : b < w.heap.size + 1 := by omega
  have l2 : b < w.heap.size + 1 + 1 := by omega
  have l3 : b < w.heap.size + 1 + 1 + 1 := by omega
  obtain ⟨k0, k1, k2, k3, k4, k5, k6, k7, k8, k9, k10⟩ := sec_cells hrow hc
  have hk := hL.kinds c (List.mem_of_getElem? hc)
  have hp := fun w1 => rPorts_any c.k w1
  obtain ⟨np, hnp⟩ : ∃ np, np = kPorts c.k := ⟨_, rfl⟩
  rw [← hnp] at hp
  rw [← hnp] at hq
  have HP := Lib.hid hp
  have hln : n < L.secs.length := hn
  have hds : decide ((n : Int) < 0) = false := decide_eq_false (by omega)
  have hds2 : decide (L.secs.length ≤ n) = false := decide_eq_false (by omega)
  clear hp hc hk hnp hrow hL
  unfold Lay.val
  have hqq : q < 0 ∨ (¬ q < 0 ∧ np ≤ q) := by omega
  clear hq
  rcases hqq with h | ⟨h, h2⟩
  · have hd : decide (q < 0) = true := decide_eq_true h
    go_enter Tryd.func11, Tryd.ntmps11
    go_wp2_with fail
    refine wp_region_ext (by kernel_rfl) (by kernel_rfl) fun hx => ?_
    repeat (go_big_quiet_step ((go_at_call 24; exact Calls.ext (HP.out _))))
    refine wpQuiet_nil ?_
    intro w5 b5
    obtain ⟨hc, hf, hz⟩ := bcell b5
    have B := bchain (bchain (bchain (bself (w := w) (o := _)) bself) bself) b5
    have l5 : b < w5.heap.size := hz _ (by simp; omega)
    clear b5 hz
    go_wp2
    refine bodyPost_ret (v := atV none) (by simp [results, Tryd.results11, go_sem, hc, atV, zeroSec, Sec.enc]) rfl ⟨rfl, ?_⟩
    repeat refine Below.setCell ?_ (by dsimp only; omega) _
    exact B
  · have hd : decide (q < 0) = false := decide_eq_false h
    have hd2 : decide (np ≤ q) = true := decide_eq_true h2
    go_enter Tryd.func11, Tryd.ntmps11
    go_wp2_with fail
    refine wp_region_ext (by kernel_rfl) (by kernel_rfl) fun hx => ?_
    repeat (go_big_quiet_step ((go_at_call 24; exact Calls.ext (HP.out _))))
    refine wpQuiet_nil ?_
    intro w5 b5
    obtain ⟨hc, hf, hz⟩ := bcell b5
    have B := bchain (bchain (bchain (bself (w := w) (o := _)) bself) bself) b5
    have l5 : b < w5.heap.size := hz _ (by simp; omega)
    clear b5 hz
    go_wp2
    refine bodyPost_ret (v := atV none) (by simp [results, Tryd.results11, go_sem, hc, atV, zeroSec, Sec.enc]) rfl ⟨rfl, ?_⟩
    repeat refine Below.setCell ?_ (by dsimp only; omega) _
    exact B

set_option maxRecDepth 100000 in
set_option maxHeartbeats 4000000 in
theorem rAt_some (L : Lay) (p : Where) (n : Nat) (c : Sec) (q : Int) (w : World) (hL : LayAt w p L) (hn : n < L.secs.length) (hc : L.secs[n]? = some c) (hq0 : 0 ≤ q) (hq : q < kPorts c.k) :
    Calls Tryd.prog 11 #[L.val p, .agg #[.int .i64 n, .int .i64 q]] w fun e w' => e = .returned (atV (some c)) ∧ Below w.heap.size w w' := by
  obtain ⟨a0, a1, a2, a3, p0, p1, p2, p3⟩ := p
  obtain ⟨b, off, e0, hrow⟩ := hL.secs.get hn
  dsimp only at e0
  subst e0
  have l0 := hrow.1
  have l1 : b < w.heap.size + 1 := by omega
  have l2 : b < w.heap.size + 1 + 1 := by omega
  have l3 : b < w.heap.size + 1 + 1 + 1 := by omega
  obtain ⟨k0, k1, k2, k3, k4, k5, k6, k7, k8, k9, k10⟩ := sec_cells hrow hc
  have hk := hL.kinds c (List.mem_of_getElem? hc)
  have hp := fun w1 => rPorts_any c.k w1
  obtain ⟨np, hnp⟩ : ∃ np, np = kPorts c.k := ⟨_, rfl⟩
  rw [← hnp] at hp
  rw [← hnp] at hq
  have HP := Lib.hid hp
  have hln : n < L.secs.length := hn
  have hds : decide ((n : Int) < 0) = false := decide_eq_false (by omega)
  have hds2 : decide (L.secs.length ≤ n) = false := decide_eq_false (by omega)
  clear hp hc hk hnp hrow hL
  unfold Lay.val
  have hd : decide (q < 0) = false := decide_eq_false (by omega)
  have hd2 : decide (np ≤ q) = false := decide_eq_false (by omega)
  go_enter Tryd.func11, Tryd.ntmps11
  go_wp2_with fail
  refine wp_region_ext (by kernel_rfl) (by kernel_rfl) fun hx => ?_
  repeat (go_big_quiet_step ((go_at_call 24; exact Calls.ext (HP.out _))))
  refine wpQuiet_nil ?_
  intro w5 b5
  obtain ⟨hc, hf, hz⟩ := bcell b5
  have B := bchain (bchain (bchain (bself (w := w) (o := _)) bself) bself) b5
  have l5 : b < w5.heap.size := hz _ (by simp; omega)
  clear b5 hz
  go_wp2
  refine bodyPost_ret (v := atV (some c)) (by simp [results, Tryd.results11, go_sem, hc, atV, Sec.enc]) rfl ⟨rfl, ?_⟩
  repeat refine Below.setCell ?_ (by dsimp only; omega) _
  exact B

/-- At, both of them, whatever is asked. -/
theorem at_cases (L : Lay) (s q : Int) : (isSec L s = false ∧ atO L s q = none) ∨ ∃ (n : Nat) (c : Sec), s = (n : Int) ∧ n < L.secs.length ∧ L.secs[n]? = some c ∧ c ∈ L.secs ∧ ((¬ (0 ≤ q ∧ q < kPorts c.k) ∧ atO L s q = none) ∨ (0 ≤ q ∧ q < kPorts c.k ∧ atO L s q = some c)) := by
  by_cases h : 0 ≤ s ∧ s < L.secs.length
  · obtain ⟨n, c, e, hn, hc, hs, hm⟩ := secAt_some h
    refine .inr ⟨n, c, e, hn, hc, hm, ?_⟩
    unfold atO
    rw [hs, Option.bind_some]
    by_cases g : 0 ≤ q ∧ q < kPorts c.k
    · exact .inr ⟨g.1, g.2, if_pos g⟩
    · exact .inl ⟨g, if_neg g⟩
  · refine .inl ⟨decide_eq_false h, ?_⟩
    unfold atO
    rw [secAt_none h]
    rfl
theorem at_any (L : Lay) (p : Where) (s q : Int) (w : World) (hL : LayAt w p L) (K : Kinds w) :
    Calls Tryd.prog 10 #[L.val p, .agg #[.int .i64 s, .int .i64 q]] w fun e w' => e = .returned (atV (atO L s q)) ∧ Below w.heap.size w w' := by
  rcases at_cases L s q with ⟨h, e⟩ | ⟨n, c, rfl, hn, hc, _, ⟨h, e⟩ | ⟨h0, h, e⟩⟩
  · rw [e]; exact at_none L p s q w h
  · rw [e]; exact at_out L p n c q w hL K hn hc h
  · rw [e]; exact at_some L p n c q w hL K hn hc h0 h
theorem rAt_any (L : Lay) (p : Where) (s q : Int) (w : World) (hL : LayAt w p L) :
    Calls Tryd.prog 11 #[L.val p, .agg #[.int .i64 s, .int .i64 q]] w fun e w' => e = .returned (atV (atO L s q)) ∧ Below w.heap.size w w' := by
  rcases at_cases L s q with ⟨h, e⟩ | ⟨n, c, rfl, hn, hc, _, ⟨h, e⟩ | ⟨h0, h, e⟩⟩
  · rw [e]; exact rAt_none L p s q w h
  · rw [e]; exact rAt_out L p n c q w hL hn hc h
  · rw [e]; exact rAt_some L p n c q w hL hn hc h0 h
end Go.Proofs.YtkphihbimdffjaaDoor
