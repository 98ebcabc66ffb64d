/-
  The walk of PortPos.
-/
import Derived.Test.YtaajbhdmnbabhaaDoorPort6
import Derived.Test.YtaajbhdmnbabhaaDoorPortLaw
namespace Go.Proofs.YtaajbhdmnbabhaaDoor
open Go.RowKit Go.Shelf

theorem pos_comm (k i o : Int) : posN k i o = posN k o i := by
  unfold posN
  rw [(way_comm k i o).1, (way_comm k i o).2]

set_option maxRecDepth 100000 in
set_option maxHeartbeats 4000000 in
theorem portPos_walk (k s i o : Int) (h0 : 0 ≤ k) (h1 : k ≤ 255) (w : World) (K : Kinds w) :
    Calls Tryd.prog 5 #[.int .u8 k, .agg #[.int .i64 s, .int .i64 i, .int .i64 o]] w fun e w' => e = .returned (.bool true) ∧ Below w.heap.size w w' := by
  have hw := fun w1 (K1 : Kinds w1) => way_any k i o h0 h1 w1 K1
  have hp := fun w1 (K1 : Kinds w1) => pos_any k i o h0 h1 w1 K1
  have hq := fun w1 (K1 : Kinds w1) => pos_any k o i h0 h1 w1 K1
  rw [← pos_comm k i o, ← (way_comm k i o).1] at hq
  have hn : wayB k i o = false → wayN k i o = 0 := way_false
  have hpos : posN k i o = if wayB k i o = true ∧ kPoint k = false then -1 else wayN k i o := rfl
  have hpt : kPoint k = decide (k = 2) := rfl
  obtain ⟨p, hp0⟩ : ∃ p, p = posN k i o := ⟨_, rfl⟩
  obtain ⟨n, hn0⟩ : ∃ n, n = wayN k i o := ⟨_, rfl⟩
  obtain ⟨b, hb0⟩ : ∃ b, b = wayB k i o := ⟨_, rfl⟩
  rw [← hn0, ← hb0] at hw hn
  rw [← hp0, ← hb0] at hp hq
  rw [← hp0, ← hn0, ← hb0, hpt] at hpos
  have HW := Lib.hid hw
  have HP := Lib.hid hp
  have HQ := Lib.hid hq
  have KH := Lib.hid K
  clear hw hp hq K hp0 hn0 hb0 hpt
  have cs : (b = false ∧ n = 0 ∧ p = 0) ∨ (b = true ∧ k = 2 ∧ p = n) ∨ (b = true ∧ k ≠ 2 ∧ p = -1) := by
    cases b with
    | false => left; have := hn rfl; simp [this] at hpos; exact ⟨rfl, this, hpos⟩
    | true =>
      right
      by_cases hk : k = 2
      · left; simp [hk] at hpos; exact ⟨rfl, hk, hpos⟩
      · right; simp [hk] at hpos; exact ⟨rfl, hk, hpos⟩
  clear hn hpos
  rcases cs with ⟨rfl, rfl, rfl⟩ | ⟨rfl, rfl, rfl⟩ | ⟨rfl, hk, rfl⟩
  all_goals
    go_enter Tryd.func5, Tryd.ntmps5
    go_wp2_with fail
    have B0 : Below w.heap.size w (w.alloc (.cells #[.int .i64 s, .int .i64 i, .int .i64 o] 33)) := bself
    (with_reducible refine (HW.out _ (KH.out.below B0)).mono ?_)
    rintro e w1 ⟨rfl, b1⟩
    have B1 := bnew b1
    obtain ⟨f1, g1, l1⟩ := bcell b1
    have z1 : w.heap.size < w1.heap.size := l1 _ (by simp)
    go_wp2_with fail
    (with_reducible refine (HP.out _ (KH.out.below B1)).mono ?_)
    rintro e w2 ⟨rfl, b2⟩
    have B2 := bchain B1 b2
    obtain ⟨f2, g2, l2⟩ := bcell b2
    have z2 : w.heap.size < w2.heap.size := l2 _ z1
    go_wp2_with fail
    (with_reducible refine (turned_any s i o _).mono ?_)
    rintro e w3 ⟨rfl, b3⟩
    have B3 := bchain B2 b3
    obtain ⟨f3, g3, l3⟩ := bcell b3
    have z3 : w.heap.size < w3.heap.size := l3 _ z2
    go_wp2_with fail
    (with_reducible refine (HQ.out _ (KH.out.below (bchain B3 bself))).mono ?_)
    rintro e w4 ⟨rfl, b4⟩
    have B4 := bchain B3 (bnew b4)
    obtain ⟨f4, g4, l4⟩ := bcell b4
    have z4 : w.heap.size < w4.heap.size := l4 _ (by simp; omega)
    have z5 : w3.heap.size < w4.heap.size := l4 _ (by simp)
    have c0 : w4.cell? ⟨w.heap.size, 0, none⟩ = some (.int .i64 s) := by simp [go_sem, f1, f2, f3, f4, z1, z2, z3]
    have c1 : w4.cell? ⟨w.heap.size, 1, none⟩ = some (.int .i64 i) := by simp [go_sem, f1, f2, f3, f4, z1, z2, z3]
    have c2 : w4.cell? ⟨w.heap.size, 2, none⟩ = some (.int .i64 o) := by simp [go_sem, f1, f2, f3, f4, z1, z2, z3]
    have e0 : w4.cell? ⟨w3.heap.size, 0, none⟩ = some (.int .i64 s) := by simp [go_sem, f4]
    have e1 : w4.cell? ⟨w3.heap.size, 1, none⟩ = some (.int .i64 o) := by simp [go_sem, f4]
    have e2 : w4.cell? ⟨w3.heap.size, 2, none⟩ = some (.int .i64 i) := by simp [go_sem, f4]
    go_wp2_with fail
    clear f1 f2 f3 f4 g1 g2 g3 g4 l1 l2 l3 l4 b1 b2 b3 b4 B0 B1 B2 B3 z1 z2 z3
    refine wp_region_ext (by kernel_rfl) (by kernel_rfl) fun hx => ?_
    repeat (go_big_quiet_step ((go_at_call 14; exact Calls.ext (turned_any s o i _))))
    refine wpQuiet_nil ?_
    intro w5 b5
    go_wp2_with fail
    (with_reducible refine (wakes5_any _ (KH.out.below (bchain B4 b5))).mono ?_)
    rintro e w6 ⟨rfl, b6⟩
    go_wp2
    go_ret
    exact ⟨rfl, bchain (bchain B4 b5) b6⟩
end Go.Proofs.YtaajbhdmnbabhaaDoor
