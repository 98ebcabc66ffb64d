/-
  lockbarref05: Ports, Ways, Ends, Way.
-/
import Derived.Test.YtkphihbimdffjaaDoorPort3
import Derived.Test.YtkphihbimdffjaaDoorPortLaw
import Derived.Deep.DeepCutAuto
namespace Go.Proofs.YtkphihbimdffjaaDoor
open Go.RowKit Go.Shelf

theorem rPorts_any (k : Int) (w : World) :
    Calls Tryd.prog 24 #[.int .u8 k] w fun e w' => e = .returned (.int .i64 (kPorts k)) ∧ Below w.heap.size w w' := by
  rcases kCases k with ⟨rfl, h, _⟩ | ⟨rfl, h, _⟩ | ⟨rfl, h, _⟩ | ⟨h1, h2, h3, h, _⟩
  all_goals rw [h]; clear h
  · go_enter Tryd.func24, Tryd.ntmps24
    go_wp2
    go_ret
    exact ⟨rfl, Below.refl _ _⟩
  · go_enter Tryd.func24, Tryd.ntmps24
    go_wp2
    go_ret
    exact ⟨rfl, Below.refl _ _⟩
  · go_enter Tryd.func24, Tryd.ntmps24
    go_wp2
    go_ret
    exact ⟨rfl, Below.refl _ _⟩
  · have d1 : (k == 1) = false := by simpa using h1
    have d2 : (k == 2) = false := by simpa using h2
    have d3 : (k == 3) = false := by simpa using h3
    go_enter Tryd.func24, Tryd.ntmps24
    go_wp2
    go_ret
    exact ⟨rfl, Below.refl _ _⟩

theorem rWays_any (k : Int) (w : World) :
    Calls Tryd.prog 63 #[.int .u8 k] w fun e w' => e = .returned (.int .i64 (kMany k)) ∧ Below w.heap.size w w' := by
  rcases kCases k with ⟨rfl, _, h, _⟩ | ⟨rfl, _, h, _⟩ | ⟨rfl, _, h, _⟩ | ⟨h1, h2, h3, _, h, _⟩
  all_goals rw [h]; clear h
  · go_enter Tryd.func63, Tryd.ntmps63
    go_wp2
    go_ret
    exact ⟨rfl, Below.refl _ _⟩
  · go_enter Tryd.func63, Tryd.ntmps63
    go_wp2
    go_ret
    exact ⟨rfl, Below.refl _ _⟩
  · go_enter Tryd.func63, Tryd.ntmps63
    go_wp2
    go_ret
    exact ⟨rfl, Below.refl _ _⟩
  · have d1 : (k == 1) = false := by simpa using h1
    have d2 : (k == 2) = false := by simpa using h2
    have d3 : (k == 3) = false := by simpa using h3
    go_enter Tryd.func63, Tryd.ntmps63
    go_wp2
    go_ret
    exact ⟨rfl, Below.refl _ _⟩

theorem rEnds_in (k : Int) (n : Nat) (h : (n : Int) < kMany k) (w : World) :
    Calls Tryd.prog 64 #[.int .u8 k, .int .i64 n] w fun e w' => e = .returned (.tuple #[.int .i64 (aOf k n), .int .i64 (bOf k n), .bool true]) ∧ Below w.heap.size w w' := by
  have hw := fun w1 => rWays_any k w1
  have hn : n = 0 ∨ n = 1 := by have := kMany_le k; omega
  rcases kCases k with ⟨rfl, _, m, _⟩ | ⟨rfl, _, m, _⟩ | ⟨rfl, _, m, _⟩ | ⟨_, _, _, _, m, _⟩
  all_goals rw [m] at h hw
  · obtain rfl : n = 0 := by omega
    have HW := Lib.hid hw
    clear hw m h
    go_enter Tryd.func64, Tryd.ntmps64
    go_wp2_with fail
    (with_reducible refine (HW.out _).mono ?_)
    rintro e w1 ⟨rfl, b⟩
    go_wp2
    go_ret3
    exact ⟨rfl, b⟩
  · have HW := Lib.hid hw
    clear hw m h
    rcases hn with rfl | rfl
    all_goals
      go_enter Tryd.func64, Tryd.ntmps64
      go_wp2_with fail
      (with_reducible refine (HW.out _).mono ?_)
      rintro e w1 ⟨rfl, b⟩
      go_wp2
      go_ret3
      exact ⟨rfl, b⟩
  · have HW := Lib.hid hw
    clear hw m h
    rcases hn with rfl | rfl
    all_goals
      go_enter Tryd.func64, Tryd.ntmps64
      go_wp2_with fail
      (with_reducible refine (HW.out _).mono ?_)
      rintro e w1 ⟨rfl, b⟩
      go_wp2
      go_ret3
      exact ⟨rfl, b⟩
  · omega

theorem hit_one {k : Int} {i o : Int} : hit k 0 i o → ¬ hit k 1 i o := by
  unfold hit
  rcases kCases k with ⟨rfl, _⟩ | ⟨rfl, _⟩ | ⟨rfl, _⟩ | ⟨_, _, _, _, m, _⟩
  · simp [kMany]
  · simp [kMany, aOf, bOf, kB0, kA1, kB1]; omega
  · simp [kMany, aOf, bOf, kB0, kA1, kB1]; omega
  · rw [m]; omega
/-- The way that is hit first is the way. -/
theorem way_hit {k i o : Int} {n : Nat} (h : hit k n i o) : wayN k i o = n ∧ wayB k i o = true := by
  have hm := kMany_le k
  have hn : n = 0 ∨ n = 1 := by have := h.1; omega
  rw [(way_spec k i o).1, (way_spec k i o).2]
  rcases hn with rfl | rfl
  · exact ⟨by rw [if_neg (hit_one h)]; rfl, decide_eq_true (.inl h)⟩
  · exact ⟨by rw [if_pos h]; rfl, decide_eq_true (.inr h)⟩
theorem way_miss {k i o : Int} (h : ∀ n : Nat, (n : Int) < kMany k → ¬ hit k n i o) : wayN k i o = 0 ∧ wayB k i o = false := by
  have h0 : ¬ hit k 0 i o := fun g => h 0 g.1 g
  have h1 : ¬ hit k 1 i o := fun g => h 1 g.1 g
  rw [(way_spec k i o).1, (way_spec k i o).2]
  exact ⟨if_neg h1, decide_eq_false (by rintro (g | g); exact h0 g; exact h1 g)⟩

set_option maxRecDepth 100000 in
set_option maxHeartbeats 2000000 in
theorem rWay_any (k i o : Int) (w : World) :
    Calls Tryd.prog 25 #[.int .u8 k, .int .i64 i, .int .i64 o] w fun e w' => e = .returned (.tuple #[.int .i64 (wayN k i o), .bool (wayB k i o)]) ∧ Below w.heap.size w w' := by
  have hm := kMany_le k
  obtain ⟨m, hmk⟩ : ∃ m, m = kMany k := ⟨_, rfl⟩
  have hw := fun w1 => rWays_any k w1
  rw [← hmk] at hw hm
  have HW := Lib.hid hw
  have HM := Lib.hid hmk
  have HY : Hid (∀ n : Nat, hit k n i o → wayN k i o = n ∧ wayB k i o = true) := Lib.hid (fun n h => way_hit h)
  have HZ : Hid ((∀ n : Nat, (n : Int) < kMany k → ¬ hit k n i o) → wayN k i o = 0 ∧ wayB k i o = false) := Lib.hid way_miss
  clear hw hmk
  generalize wayN k i o = r at HY HZ
  generalize wayB k i o = q at HY HZ
  go_enter Tryd.func25, Tryd.ntmps25
  go_wp2_with fail
  go_loopg [8] 2 (fun g s8 wr => ∃ n : Nat, n ≤ 2 ∧ 2 - n ≤ g ∧ s8 = .int .i64 n ∧ Hid (∀ j : Nat, j < n → ¬ hit k j i o) ∧ Hid (Below w.heap.size w wr))
  case atStart => exact ⟨0, by omega, by omega, rfl, Lib.hid (fun j hj => by omega), Lib.hid (Below.refl _ _)⟩
  case round =>
    obtain ⟨n, hn, hg, rfl, HJ, HB⟩ := hrel
    by_cases hlt : (n : Int) < m
    · have he := fun w1 => rEnds_in k n (by rw [← HM.out]; exact hlt) w1
      obtain ⟨a, ha⟩ : ∃ a, a = aOf k n := ⟨_, rfl⟩
      obtain ⟨b, hb⟩ : ∃ b, b = bOf k n := ⟨_, rfl⟩
      rw [← ha, ← hb] at he
      have hit_ab : hit k n i o ↔ ((i = a ∧ o = b) ∨ (i = b ∧ o = a)) := by
        unfold hit
        rw [← ha, ← hb, ← HM.out]
        exact ⟨fun h => h.2, fun h => ⟨hlt, h⟩⟩
      have HE := Lib.hid he
      have HH := Lib.hid hit_ab
      clear he ha hb hit_ab
      have hd : decide ((n : Int) < m) = true := decide_eq_true hlt
      go_wp2_with fail
      (with_reducible refine (HW.out _).mono ?_)
      rintro e w1 ⟨rfl, b1⟩
      go_wp2_with fail
      (with_reducible refine (HE.out _).mono ?_)
      rintro e w2 ⟨rfl, b2⟩
      have HB2 := Lib.hid (bchain (bchain HB.out b1) b2)
      clear b1 b2 hd HB
      cases h1 : (i == a) <;> cases h2 : (o == b) <;> cases h3 : (i == b) <;> cases h4 : (o == a)
      all_goals
        go_wp2
        first
          | (go_ret2
             obtain ⟨rfl, rfl⟩ := HY.out n (HH.out.2 (by simp at h1 h2 h3 h4; omega))
             exact ⟨rfl, HB2.out⟩)
          | (go_roundg (2 - (n + 1))
             case measure => omega
             case rel =>
               refine ⟨n + 1, by omega, by omega, by go_num, Lib.hid (fun j hj => ?_), HB2⟩
               by_cases e : j = n
               · subst e
                 rw [HH.out]
                 simp at h1 h2 h3 h4
                 omega
               · exact HJ.out j (by omega))
    · have hd : decide ((n : Int) < m) = false := decide_eq_false hlt
      go_wp2_with fail
      (with_reducible refine (HW.out _).mono ?_)
      rintro e w1 ⟨rfl, b1⟩
      go_wp2
      go_ret2
      obtain ⟨rfl, rfl⟩ := HZ.out (fun j hj => HJ.out j (by rw [← HM.out] at hj; omega))
      exact ⟨rfl, bchain HB.out b1⟩
end Go.Proofs.YtkphihbimdffjaaDoor
