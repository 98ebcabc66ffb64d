/-
  The walk of PortWays, case by case (printed by wip/tools/portways.py).
-/
import Derived.Test.YtaajbhdmnbabhaaDoorPort6
import Derived.Test.YtaajbhdmnbabhaaDoorPortLaw
namespace Go.Proofs.YtaajbhdmnbabhaaDoor
open Go.RowKit Go.Shelf

set_option maxRecDepth 100000 in
set_option maxHeartbeats 2000000 in
theorem ways_lo (k i o n : Int) (h0 : 0 ≤ k) (h1 : k ≤ 255) (hN : n = kPorts k) (hi : i < 0) (hw : wayB k i o = false) (hO : outs k i = []) (w : World) (K : Kinds w) :
    Calls Tryd.prog 3 #[.int .u8 k, .int .i64 i, .int .i64 o] w fun e w' => e = .returned (.bool true) ∧ Below w.heap.size w w' := by
  have g1 := fun w1 (K1 : Kinds w1) => way_any k i o h0 h1 w1 K1
  have g2 := fun w1 (K1 : Kinds w1) => way_any k o i h0 h1 w1 K1
  rw [← (way_comm k i o).1, ← (way_comm k i o).2] at g2
  rw [way_false hw, hw] at g1 g2
  have hp := fun w1 (K1 : Kinds w1) => ports_any k h0 h1 w1 K1
  rw [← hN] at hp
  have ho := fun w1 (K1 : Kinds w1) => outs_any k i h0 h1 w1 K1
  rw [hO] at ho
  have H1 := Lib.hid g1
  have H2 := Lib.hid g2
  have HP := Lib.hid hp
  have HO := Lib.hid ho
  have KH := Lib.hid K
  clear g1 g2 hp ho K hw hO hN
  go_enter Tryd.func3, Tryd.ntmps3
  go_wp2_with fail
  (with_reducible refine (H1.out _ KH.out).mono ?_)
  rintro e w0 ⟨rfl, B⟩
  go_wp2_with fail
  (with_reducible refine (H2.out _ (KH.out.below B)).mono ?_)
  rintro e w1 ⟨rfl, b⟩
  replace B := bchain B b
  clear b
  go_wp2_with fail
  (with_reducible refine (HP.out _ (KH.out.below B)).mono ?_)
  rintro e w2 ⟨rfl, b⟩
  replace B := bchain B b
  clear b
  go_wp2_with fail
  (with_reducible refine (HO.out _ (KH.out.below B)).mono ?_)
  rintro e X ⟨⟨sv, rfl, hs⟩, b⟩
  replace B := bchain B b
  clear b
  have hs2 : ∃ a c, sv = .slice a 0 c := by
    rcases hs with ⟨h, _⟩ | ⟨g, cap, hv, _⟩
    · exact ⟨_, _, h⟩
    · exact ⟨_, _, hv⟩
  obtain ⟨a, c, hv⟩ := hs2
  subst hv
  clear hs
  go_wp2_with fail
  try (any_goals (exfalso; omega))
  all_goals
    go_loopw [6, 16, 17, 18, 19, 20] (fun r c _ _ _ _ wr => c = .int .i64 0 ∧ r = .bool false ∧ Below X.heap.size X wr) (fun _ _ _ _ _ _ _ => 0)
    case atStart => exact ⟨rfl, rfl, Below.refl _ _⟩
    case round =>
      obtain ⟨rfl, rfl, hB⟩ := hrel
      go_wp2_with fail
      (with_reducible refine (wakes5_any _ (KH.out.below (bchain B hB))).mono ?_)
      rintro e u ⟨rfl, b⟩
      go_wp2
      go_ret
      exact ⟨rfl, bchain (bchain B hB) b⟩

set_option maxRecDepth 100000 in
set_option maxHeartbeats 2000000 in
theorem ways_hi (k i o n : Int) (h0 : 0 ≤ k) (h1 : k ≤ 255) (hN : n = kPorts k) (hi : n ≤ i) (hn : 0 ≤ n) (hz : i = 0 → k ≠ 2) (hw : wayB k i o = false) (hO : outs k i = []) (w : World) (K : Kinds w) :
    Calls Tryd.prog 3 #[.int .u8 k, .int .i64 i, .int .i64 o] w fun e w' => e = .returned (.bool true) ∧ Below w.heap.size w w' := by
  have g1 := fun w1 (K1 : Kinds w1) => way_any k i o h0 h1 w1 K1
  have g2 := fun w1 (K1 : Kinds w1) => way_any k o i h0 h1 w1 K1
  rw [← (way_comm k i o).1, ← (way_comm k i o).2] at g2
  rw [way_false hw, hw] at g1 g2
  have hp := fun w1 (K1 : Kinds w1) => ports_any k h0 h1 w1 K1
  rw [← hN] at hp
  have ho := fun w1 (K1 : Kinds w1) => outs_any k i h0 h1 w1 K1
  rw [hO] at ho
  have H1 := Lib.hid g1
  have H2 := Lib.hid g2
  have HP := Lib.hid hp
  have HO := Lib.hid ho
  have KH := Lib.hid K
  clear g1 g2 hp ho K hw hO hN
  go_enter Tryd.func3, Tryd.ntmps3
  go_wp2_with fail
  (with_reducible refine (H1.out _ KH.out).mono ?_)
  rintro e w0 ⟨rfl, B⟩
  go_wp2_with fail
  (with_reducible refine (H2.out _ (KH.out.below B)).mono ?_)
  rintro e w1 ⟨rfl, b⟩
  replace B := bchain B b
  clear b
  go_wp2_with fail
  (with_reducible refine (HP.out _ (KH.out.below B)).mono ?_)
  rintro e w2 ⟨rfl, b⟩
  replace B := bchain B b
  clear b
  go_wp2_with fail
  (with_reducible refine (HO.out _ (KH.out.below B)).mono ?_)
  rintro e X ⟨⟨sv, rfl, hs⟩, b⟩
  replace B := bchain B b
  clear b
  have hs2 : ∃ a c, sv = .slice a 0 c := by
    rcases hs with ⟨h, _⟩ | ⟨g, cap, hv, _⟩
    · exact ⟨_, _, h⟩
    · exact ⟨_, _, hv⟩
  obtain ⟨a, c, hv⟩ := hs2
  subst hv
  clear hs
  go_wp2_with fail
  try (any_goals (exfalso; omega))
  all_goals
    go_loopw [6, 16, 17, 18, 19, 20] (fun r c _ _ _ _ wr => c = .int .i64 0 ∧ r = .bool false ∧ Below X.heap.size X wr) (fun _ _ _ _ _ _ _ => 0)
    case atStart => exact ⟨rfl, rfl, Below.refl _ _⟩
    case round =>
      obtain ⟨rfl, rfl, hB⟩ := hrel
      go_wp2_with fail
      (with_reducible refine (wakes5_any _ (KH.out.below (bchain B hB))).mono ?_)
      rintro e u ⟨rfl, b⟩
      go_wp2
      go_ret
      exact ⟨rfl, bchain (bchain B hB) b⟩
end Go.Proofs.YtaajbhdmnbabhaaDoor
