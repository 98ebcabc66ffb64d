/-
  The walk of PortKinds.
-/
import Derived.Test.YtaajbhdmnbabhaaDoorPort6
namespace Go.Proofs.YtaajbhdmnbabhaaDoor
open Go.RowKit Go.Shelf

set_option maxRecDepth 100000 in
set_option maxHeartbeats 1000000 in
theorem kinds_10 (w : World) (K : Kinds w) : Calls Tryd.prog 4 #[.int .u8 1, .int .i64 0] w fun e w' => e = .returned (.bool true) ∧ Below w.heap.size w w' := by
  have hn := fun w1 (K1 : Kinds w1) => ports_any 1 (by decide) (by decide) w1 K1
  have hm := fun w1 (K1 : Kinds w1) => ways_any 1 (by decide) (by decide) w1 K1
  have he := fun w1 (K1 : Kinds w1) => ends_any 1 0 (by decide) (by decide) w1 K1
  have hf := fun w1 (K1 : Kinds w1) => ends_any 1 1 (by decide) (by decide) w1 K1
  rw [show kPorts 1 = 2 by decide] at hn
  rw [show kMany 1 = 1 by decide] at hm
  rw [show eA 1 0 = 0 by decide, show eB 1 0 = 1 by decide, show eIs 1 0 = true by decide] at he
  rw [show eA 1 1 = 0 by decide, show eB 1 1 = 0 by decide, show eIs 1 1 = false by decide] at hf
  have H := Lib.hid (⟨hn, hm, he, hf, K⟩ : _ ∧ _ ∧ _ ∧ _ ∧ _)
  clear hn hm he hf K
  go_enter Tryd.func4, Tryd.ntmps4
  go_wp2_with fail
  (with_reducible refine (H.out.1 _ H.out.2.2.2.2).mono ?_)
  rintro e w1 ⟨rfl, B1⟩
  go_wp2_with fail
  (with_reducible refine (H.out.2.1 _ (H.out.2.2.2.2.below B1)).mono ?_)
  rintro e w2 ⟨rfl, b2⟩
  have B2 := bchain B1 b2
  go_wp2_with fail
  (with_reducible refine (H.out.2.2.1 _ (H.out.2.2.2.2.below B2)).mono ?_)
  rintro e w3 ⟨rfl, b3⟩
  have B3 := bchain B2 b3
  go_wp2_with fail
  (with_reducible refine (H.out.2.2.2.1 _ (H.out.2.2.2.2.below B3)).mono ?_)
  rintro e w4 ⟨rfl, b4⟩
  have B4 := bchain B3 b4
  go_wp2_with fail
  (with_reducible refine (wakes5_any _ (H.out.2.2.2.2.below B4)).mono ?_)
  rintro e w5 ⟨rfl, b5⟩
  go_wp2
  go_ret
  exact ⟨rfl, bchain B4 b5⟩

set_option maxRecDepth 100000 in
set_option maxHeartbeats 1000000 in
theorem kinds_20 (w : World) (K : Kinds w) : Calls Tryd.prog 4 #[.int .u8 2, .int .i64 0] w fun e w' => e = .returned (.bool true) ∧ Below w.heap.size w w' := by
  have hn := fun w1 (K1 : Kinds w1) => ports_any 2 (by decide) (by decide) w1 K1
  have hm := fun w1 (K1 : Kinds w1) => ways_any 2 (by decide) (by decide) w1 K1
  have he := fun w1 (K1 : Kinds w1) => ends_any 2 0 (by decide) (by decide) w1 K1
  have hf := fun w1 (K1 : Kinds w1) => ends_any 2 1 (by decide) (by decide) w1 K1
  rw [show kPorts 2 = 3 by decide] at hn
  rw [show kMany 2 = 2 by decide] at hm
  rw [show eA 2 0 = 0 by decide, show eB 2 0 = 1 by decide, show eIs 2 0 = true by decide] at he
  rw [show eA 2 1 = 0 by decide, show eB 2 1 = 2 by decide, show eIs 2 1 = true by decide] at hf
  have H := Lib.hid (⟨hn, hm, he, hf, K⟩ : _ ∧ _ ∧ _ ∧ _ ∧ _)
  clear hn hm he hf K
  go_enter Tryd.func4, Tryd.ntmps4
  go_wp2_with fail
  (with_reducible refine (H.out.1 _ H.out.2.2.2.2).mono ?_)
  rintro e w1 ⟨rfl, B1⟩
  go_wp2_with fail
  (with_reducible refine (H.out.2.1 _ (H.out.2.2.2.2.below B1)).mono ?_)
  rintro e w2 ⟨rfl, b2⟩
  have B2 := bchain B1 b2
  go_wp2_with fail
  (with_reducible refine (H.out.2.2.1 _ (H.out.2.2.2.2.below B2)).mono ?_)
  rintro e w3 ⟨rfl, b3⟩
  have B3 := bchain B2 b3
  go_wp2_with fail
  (with_reducible refine (H.out.2.2.2.1 _ (H.out.2.2.2.2.below B3)).mono ?_)
  rintro e w4 ⟨rfl, b4⟩
  have B4 := bchain B3 b4
  go_wp2_with fail
  (with_reducible refine (wakes5_any _ (H.out.2.2.2.2.below B4)).mono ?_)
  rintro e w5 ⟨rfl, b5⟩
  go_wp2
  go_ret
  exact ⟨rfl, bchain B4 b5⟩

set_option maxRecDepth 100000 in
set_option maxHeartbeats 1000000 in
theorem kinds_21 (w : World) (K : Kinds w) : Calls Tryd.prog 4 #[.int .u8 2, .int .i64 1] w fun e w' => e = .returned (.bool true) ∧ Below w.heap.size w w' := by
  have hn := fun w1 (K1 : Kinds w1) => ports_any 2 (by decide) (by decide) w1 K1
  have hm := fun w1 (K1 : Kinds w1) => ways_any 2 (by decide) (by decide) w1 K1
  have he := fun w1 (K1 : Kinds w1) => ends_any 2 1 (by decide) (by decide) w1 K1
  have hf := fun w1 (K1 : Kinds w1) => ends_any 2 0 (by decide) (by decide) w1 K1
  rw [show kPorts 2 = 3 by decide] at hn
  rw [show kMany 2 = 2 by decide] at hm
  rw [show eA 2 1 = 0 by decide, show eB 2 1 = 2 by decide, show eIs 2 1 = true by decide] at he
  rw [show eA 2 0 = 0 by decide, show eB 2 0 = 1 by decide, show eIs 2 0 = true by decide] at hf
  have H := Lib.hid (⟨hn, hm, he, hf, K⟩ : _ ∧ _ ∧ _ ∧ _ ∧ _)
  clear hn hm he hf K
  go_enter Tryd.func4, Tryd.ntmps4
  go_wp2_with fail
  (with_reducible refine (H.out.1 _ H.out.2.2.2.2).mono ?_)
  rintro e w1 ⟨rfl, B1⟩
  go_wp2_with fail
  (with_reducible refine (H.out.2.1 _ (H.out.2.2.2.2.below B1)).mono ?_)
  rintro e w2 ⟨rfl, b2⟩
  have B2 := bchain B1 b2
  go_wp2_with fail
  (with_reducible refine (H.out.2.2.1 _ (H.out.2.2.2.2.below B2)).mono ?_)
  rintro e w3 ⟨rfl, b3⟩
  have B3 := bchain B2 b3
  go_wp2_with fail
  (with_reducible refine (H.out.2.2.2.1 _ (H.out.2.2.2.2.below B3)).mono ?_)
  rintro e w4 ⟨rfl, b4⟩
  have B4 := bchain B3 b4
  go_wp2_with fail
  (with_reducible refine (wakes5_any _ (H.out.2.2.2.2.below B4)).mono ?_)
  rintro e w5 ⟨rfl, b5⟩
  go_wp2
  go_ret
  exact ⟨rfl, bchain B4 b5⟩

set_option maxRecDepth 100000 in
set_option maxHeartbeats 1000000 in
theorem kinds_30 (w : World) (K : Kinds w) : Calls Tryd.prog 4 #[.int .u8 3, .int .i64 0] w fun e w' => e = .returned (.bool true) ∧ Below w.heap.size w w' := by
  have hn := fun w1 (K1 : Kinds w1) => ports_any 3 (by decide) (by decide) w1 K1
  have hm := fun w1 (K1 : Kinds w1) => ways_any 3 (by decide) (by decide) w1 K1
  have he := fun w1 (K1 : Kinds w1) => ends_any 3 0 (by decide) (by decide) w1 K1
  have hf := fun w1 (K1 : Kinds w1) => ends_any 3 1 (by decide) (by decide) w1 K1
  rw [show kPorts 3 = 4 by decide] at hn
  rw [show kMany 3 = 2 by decide] at hm
  rw [show eA 3 0 = 0 by decide, show eB 3 0 = 1 by decide, show eIs 3 0 = true by decide] at he
  rw [show eA 3 1 = 2 by decide, show eB 3 1 = 3 by decide, show eIs 3 1 = true by decide] at hf
  have H := Lib.hid (⟨hn, hm, he, hf, K⟩ : _ ∧ _ ∧ _ ∧ _ ∧ _)
  clear hn hm he hf K
  go_enter Tryd.func4, Tryd.ntmps4
  go_wp2_with fail
  (with_reducible refine (H.out.1 _ H.out.2.2.2.2).mono ?_)
  rintro e w1 ⟨rfl, B1⟩
  go_wp2_with fail
  (with_reducible refine (H.out.2.1 _ (H.out.2.2.2.2.below B1)).mono ?_)
  rintro e w2 ⟨rfl, b2⟩
  have B2 := bchain B1 b2
  go_wp2_with fail
  (with_reducible refine (H.out.2.2.1 _ (H.out.2.2.2.2.below B2)).mono ?_)
  rintro e w3 ⟨rfl, b3⟩
  have B3 := bchain B2 b3
  go_wp2_with fail
  (with_reducible refine (H.out.2.2.2.1 _ (H.out.2.2.2.2.below B3)).mono ?_)
  rintro e w4 ⟨rfl, b4⟩
  have B4 := bchain B3 b4
  go_wp2_with fail
  (with_reducible refine (wakes5_any _ (H.out.2.2.2.2.below B4)).mono ?_)
  rintro e w5 ⟨rfl, b5⟩
  go_wp2
  go_ret
  exact ⟨rfl, bchain B4 b5⟩

set_option maxRecDepth 100000 in
set_option maxHeartbeats 1000000 in
theorem kinds_31 (w : World) (K : Kinds w) : Calls Tryd.prog 4 #[.int .u8 3, .int .i64 1] w fun e w' => e = .returned (.bool true) ∧ Below w.heap.size w w' := by
  have hn := fun w1 (K1 : Kinds w1) => ports_any 3 (by decide) (by decide) w1 K1
  have hm := fun w1 (K1 : Kinds w1) => ways_any 3 (by decide) (by decide) w1 K1
  have he := fun w1 (K1 : Kinds w1) => ends_any 3 1 (by decide) (by decide) w1 K1
  have hf := fun w1 (K1 : Kinds w1) => ends_any 3 0 (by decide) (by decide) w1 K1
  rw [show kPorts 3 = 4 by decide] at hn
  rw [show kMany 3 = 2 by decide] at hm
  rw [show eA 3 1 = 2 by decide, show eB 3 1 = 3 by decide, show eIs 3 1 = true by decide] at he
  rw [show eA 3 0 = 0 by decide, show eB 3 0 = 1 by decide, show eIs 3 0 = true by decide] at hf
  have H := Lib.hid (⟨hn, hm, he, hf, K⟩ : _ ∧ _ ∧ _ ∧ _ ∧ _)
  clear hn hm he hf K
  go_enter Tryd.func4, Tryd.ntmps4
  go_wp2_with fail
  (with_reducible refine (H.out.1 _ H.out.2.2.2.2).mono ?_)
  rintro e w1 ⟨rfl, B1⟩
  go_wp2_with fail
  (with_reducible refine (H.out.2.1 _ (H.out.2.2.2.2.below B1)).mono ?_)
  rintro e w2 ⟨rfl, b2⟩
  have B2 := bchain B1 b2
  go_wp2_with fail
  (with_reducible refine (H.out.2.2.1 _ (H.out.2.2.2.2.below B2)).mono ?_)
  rintro e w3 ⟨rfl, b3⟩
  have B3 := bchain B2 b3
  go_wp2_with fail
  (with_reducible refine (H.out.2.2.2.1 _ (H.out.2.2.2.2.below B3)).mono ?_)
  rintro e w4 ⟨rfl, b4⟩
  have B4 := bchain B3 b4
  go_wp2_with fail
  (with_reducible refine (wakes5_any _ (H.out.2.2.2.2.below B4)).mono ?_)
  rintro e w5 ⟨rfl, b5⟩
  go_wp2
  go_ret
  exact ⟨rfl, bchain B4 b5⟩

set_option maxRecDepth 100000 in
set_option maxHeartbeats 2000000 in
theorem kinds_no (k way n m : Int) (h0 : 0 ≤ k) (h1 : k ≤ 255) (hw : way < 0 ∨ m ≤ way) (hN : n = kPorts k) (hM : m = kMany k) (w : World) (K : Kinds w)
    (cs : (k = 1 ∧ n = 2 ∧ m = 1) ∨ (k = 2 ∧ n = 3 ∧ m = 2) ∨ (k = 3 ∧ n = 4 ∧ m = 2) ∨ (k = 0 ∧ n = 0 ∧ m = 0) ∨ (3 < k ∧ n = 0 ∧ m = 0)) :
    Calls Tryd.prog 4 #[.int .u8 k, .int .i64 way] w fun e w' => e = .returned (.bool true) ∧ Below w.heap.size w w' := by
  have hn := fun w1 (K1 : Kinds w1) => ports_any k h0 h1 w1 K1
  have hm := fun w1 (K1 : Kinds w1) => ways_any k h0 h1 w1 K1
  have he := fun w1 (K1 : Kinds w1) => ends_any k way h0 h1 w1 K1
  have no : ¬ (0 ≤ way ∧ way < kMany k) := by omega
  rw [show eA k way = 0 from if_neg no, show eB k way = 0 from if_neg no, show eIs k way = false from decide_eq_false no] at he
  rw [← hN] at hn
  rw [← hM] at hm
  have H := Lib.hid (⟨hn, hm, he, K⟩ : _ ∧ _ ∧ _ ∧ _)
  clear hn hm he K no hN hM
  rcases hw with hw | hw
  all_goals
    rcases cs with ⟨rfl, rfl, rfl⟩ | ⟨rfl, rfl, rfl⟩ | ⟨rfl, rfl, rfl⟩ | ⟨rfl, rfl, rfl⟩ | ⟨hk, rfl, rfl⟩
    all_goals
      go_enter Tryd.func4, Tryd.ntmps4
      go_wp2_with fail
      (with_reducible refine (H.out.1 _ H.out.2.2.2).mono ?_)
      rintro e w1 ⟨rfl, B1⟩
      go_wp2_with fail
      (with_reducible refine (H.out.2.1 _ (H.out.2.2.2.below B1)).mono ?_)
      rintro e w2 ⟨rfl, b2⟩
      have B2 := bchain B1 b2
      go_wp2_with fail
      try (any_goals (exfalso; omega))
      (with_reducible refine (H.out.2.2.1 _ (H.out.2.2.2.below B2)).mono ?_)
      rintro e w3 ⟨rfl, b3⟩
      have B3 := bchain B2 b3
      go_wp2_with fail
      try (any_goals (exfalso; omega))
      (with_reducible refine (wakes5_any _ (H.out.2.2.2.below B3)).mono ?_)
      rintro e w5 ⟨rfl, b5⟩
      go_wp2
      go_ret
      exact ⟨rfl, bchain B3 b5⟩

theorem portKinds_walk (k way : Int) (h0 : 0 ≤ k) (h1 : k ≤ 255) (w : World) (K : Kinds w) :
    Calls Tryd.prog 4 #[.int .u8 k, .int .i64 way] w fun e w' => e = .returned (.bool true) ∧ Below w.heap.size w w' := by
  by_cases hw : way < 0 ∨ kMany k ≤ way
  · refine kinds_no k way _ _ h0 h1 hw rfl rfl w K ?_
    rcases kCases k with ⟨h, p, m, _⟩ | ⟨h, p, m, _⟩ | ⟨h, p, m, _⟩ | ⟨_, _, _, p, m, _⟩
    · exact .inl ⟨h, p, m⟩
    · exact .inr (.inl ⟨h, p, m⟩)
    · exact .inr (.inr (.inl ⟨h, p, m⟩))
    · by_cases hz : k = 0
      · exact .inr (.inr (.inr (.inl ⟨hz, p, m⟩)))
      · exact .inr (.inr (.inr (.inr ⟨by omega, p, m⟩)))
  · have h2 := kMany_le k
    have hw2 : way = 0 ∨ way = 1 := by omega
    rcases kCases k with ⟨rfl, _, m, _⟩ | ⟨rfl, _, m, _⟩ | ⟨rfl, _, m, _⟩ | ⟨_, _, _, _, m, _⟩
    · obtain rfl : way = 0 := by omega
      exact kinds_10 w K
    · rcases hw2 with rfl | rfl
      · exact kinds_20 w K
      · exact kinds_21 w K
    · rcases hw2 with rfl | rfl
      · exact kinds_30 w K
      · exact kinds_31 w K
    · omega
end Go.Proofs.YtaajbhdmnbabhaaDoor
