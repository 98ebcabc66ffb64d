/-
  lockbarlaw05.wakes.
-/
import Derived.Test.YtaajbhdmnbabhaaDoorPort5
namespace Go.Proofs.YtaajbhdmnbabhaaDoor
open Go.RowKit Go.Shelf

theorem way_220 (w : World) (K : Kinds w) : Calls Tryd.prog 7 #[.int .u8 2, .int .i64 2, .int .i64 0] w fun e w' => e = .returned (.tuple #[.int .i64 1, .bool true]) ∧ Below w.heap.size w w' := by
  have h := way_any 2 2 0 (by decide) (by decide) w K
  rwa [show wayN 2 2 0 = 1 by decide, show wayB 2 2 0 = true by decide] at h
theorem way_212 (w : World) (K : Kinds w) : Calls Tryd.prog 7 #[.int .u8 2, .int .i64 1, .int .i64 2] w fun e w' => e = .returned (.tuple #[.int .i64 0, .bool false]) ∧ Below w.heap.size w w' := by
  have h := way_any 2 1 2 (by decide) (by decide) w K
  rwa [show wayN 2 1 2 = 0 by decide, show wayB 2 1 2 = false by decide] at h
theorem pos_220 (w : World) (K : Kinds w) : Calls Tryd.prog 13 #[.int .u8 2, .int .i64 2, .int .i64 0] w fun e w' => e = .returned (.tuple #[.int .i64 1, .bool true]) ∧ Below w.heap.size w w' := by
  have h := pos_any 2 2 0 (by decide) (by decide) w K
  rwa [show posN 2 2 0 = 1 by decide, show wayB 2 2 0 = true by decide] at h
theorem pos_110 (w : World) (K : Kinds w) : Calls Tryd.prog 13 #[.int .u8 1, .int .i64 1, .int .i64 0] w fun e w' => e = .returned (.tuple #[.int .i64 (-1), .bool true]) ∧ Below w.heap.size w w' := by
  have h := pos_any 1 1 0 (by decide) (by decide) w K
  rwa [show posN 1 1 0 = -1 by decide, show wayB 1 1 0 = true by decide] at h
theorem ends_31 (w : World) (K : Kinds w) : Calls Tryd.prog 10 #[.int .u8 3, .int .i64 1] w fun e w' => e = .returned (.tuple #[.int .i64 2, .int .i64 3, .bool true]) ∧ Below w.heap.size w w' := by
  have h := ends_any 3 1 (by decide) (by decide) w K
  rwa [show eA 3 1 = 2 by decide, show eB 3 1 = 3 by decide, show eIs 3 1 = true by decide] at h
theorem outs_20 (w : World) (K : Kinds w) : Calls Tryd.prog 11 #[.int .u8 2, .int .i64 0] w fun e w' => (∃ g cap, e = .returned (.slice (some ⟨g, 0, none⟩) 2 cap) ∧ g < w'.heap.size ∧ w'.cell? ⟨g, 1, none⟩ = some (.int .i64 2)) ∧ Below w.heap.size w w' := by
  refine (outs_any 2 0 (by decide) (by decide) w K).mono ?_
  rintro e w' ⟨⟨sv, rfl, h⟩, hb⟩
  rw [show outs 2 0 = [1, 2] by decide] at h
  rcases h with ⟨_, h⟩ | ⟨g, cap, rfl, _, h2, _, _, hc⟩
  · cases h
  · exact ⟨⟨g, cap, rfl, h2, hc 1 2 rfl⟩, hb⟩
theorem outs_33 (w : World) (K : Kinds w) : Calls Tryd.prog 11 #[.int .u8 3, .int .i64 3] w fun e w' => (∃ g cap, e = .returned (.slice (some ⟨g, 0, none⟩) 1 cap)) ∧ Below w.heap.size w w' := by
  refine (outs_any 3 3 (by decide) (by decide) w K).mono ?_
  rintro e w' ⟨⟨sv, rfl, h⟩, hb⟩
  rw [show outs 3 3 = [2] by decide] at h
  rcases h with ⟨_, h⟩ | ⟨g, cap, rfl, _, h2, _, _, hc⟩
  · cases h
  · exact ⟨⟨g, cap, rfl⟩, hb⟩
theorem ports_2 (w : World) (K : Kinds w) : Calls Tryd.prog 8 #[.int .u8 2] w fun e w' => e = .returned (.int .i64 3) ∧ Below w.heap.size w w' := by
  have h := ports_any 2 (by decide) (by decide) w K
  rwa [show kPorts 2 = 3 by decide] at h
theorem ports_9 (w : World) (K : Kinds w) : Calls Tryd.prog 8 #[.int .u8 9] w fun e w' => e = .returned (.int .i64 0) ∧ Below w.heap.size w w' := by
  have h := ports_any 9 (by decide) (by decide) w K
  rwa [show kPorts 9 = 0 by decide] at h
theorem ways_1 (w : World) (K : Kinds w) : Calls Tryd.prog 9 #[.int .u8 1] w fun e w' => e = .returned (.int .i64 1) ∧ Below w.heap.size w w' := by
  have h := ways_any 1 (by decide) (by decide) w K
  rwa [show kMany 1 = 1 by decide] at h
theorem may_no (w : World) (K : Kinds w) : Calls Tryd.prog 16 #[.agg #[.int .i64 (-1), .int .i64 0]] w fun e w' => e = .returned (.bool true) ∧ Below w.heap.size w w' := by
  have h := may_any (-1) 0 w K
  rwa [show mayB (-1) 0 = true by decide] at h
theorem may_11 (w : World) (K : Kinds w) : Calls Tryd.prog 16 #[.agg #[.int .i64 (-1), .int .i64 1]] w fun e w' => e = .returned (.bool false) ∧ Below w.heap.size w w' := by
  have h := may_any (-1) 1 w K
  rwa [show mayB (-1) 1 = false by decide] at h
theorem right_s (w : World) (K : Kinds w) : Calls Tryd.prog 15 #[.agg #[.int .u8 1, .int .i64 3, .int .i64 2, .int .i64 (-1), .int .i64 0, .int .i64 (-1), .int .i64 0, .int .i64 (-1), .int .i64 0, .int .i64 3, .int .i64 0]] w fun e w' => e = .returned (.bool true) ∧ Below w.heap.size w w' := by
  have h := right_any 1 (fun n => if n = 0 then 3 else -1) (fun n => if n = 0 then 2 else 0) (fun n => if n = 0 then 3 else 0) (by decide) (by decide) w K
  rw [rightB_true (by
    refine ⟨by decide, fun i hi => ?_, fun i hi => ?_⟩
    · have : i = 0 ∨ i = 1 ∨ i = 2 ∨ i = 3 := by omega
      rcases this with rfl | rfl | rfl | rfl <;> unfold portFine <;> decide
    · have : i = 0 ∨ i = 1 := by omega
      rcases this with rfl | rfl <;> unfold classFine <;> decide)] at h
  exact h
theorem right_z (w : World) (K : Kinds w) : Calls Tryd.prog 15 #[.agg #[.int .u8 0, .int .i64 0, .int .i64 0, .int .i64 0, .int .i64 0, .int .i64 0, .int .i64 0, .int .i64 0, .int .i64 0, .int .i64 0, .int .i64 0]] w fun e w' => e = .returned (.bool false) ∧ Below w.heap.size w w' := by
  have h := right_any 0 (fun _ => 0) (fun _ => 0) (fun _ => 0) (by decide) (by decide) w K
  rw [rightB_false (fun h => h.1 (by decide))] at h
  exact h

set_option maxRecDepth 100000 in
set_option maxHeartbeats 4000000 in
theorem wakes5_any (w : World) (K : Kinds w) : Calls Tryd.prog 12 #[] w fun e w' => e = .returned (.bool true) ∧ Below w.heap.size w w' := by
  have KH := Lib.hid K
  clear K
  go_enter Tryd.func12, Tryd.ntmps12
  go_wp2_with fail
  (with_reducible refine (way_220 _ KH.out).mono ?_)
  rintro e w1 ⟨rfl, b1⟩
  go_wp2_with fail
  (with_reducible refine (pos_220 _ (KH.out.below b1)).mono ?_)
  rintro e w2 ⟨rfl, b2⟩
  have B2 := bchain b1 b2
  clear b1 b2
  go_wp2_with fail
  (with_reducible refine (way_212 _ (KH.out.below B2)).mono ?_)
  rintro e w3 ⟨rfl, b3⟩
  have B3 := bchain B2 b3
  clear B2 b3
  go_wp2_with fail
  (with_reducible refine (pos_110 _ (KH.out.below B3)).mono ?_)
  rintro e w4 ⟨rfl, b4⟩
  have B4 := bchain B3 b4
  clear B3 b4
  go_wp2_with fail
  (with_reducible refine (ends_31 _ (KH.out.below B4)).mono ?_)
  rintro e w5 ⟨rfl, b5⟩
  have B5 := bchain B4 b5
  clear B4 b5
  go_wp2_with fail
  (with_reducible refine (outs_20 _ (KH.out.below B5)).mono ?_)
  rintro e w6 ⟨⟨g, cap, rfl, hg, c1⟩, b6⟩
  have B6 := bchain B5 b6
  clear B5 b6
  go_wp2_with fail
  have B7 := bchain B6 (bself (o := .cells #[.int .u8 1, .int .i64 3, .int .i64 2, .int .i64 (-1), .int .i64 0, .int .i64 (-1), .int .i64 0, .int .i64 (-1), .int .i64 0, .int .i64 3, .int .i64 0] 41))
  (with_reducible refine (outs_33 _ (KH.out.below B7)).mono ?_)
  rintro e w8 ⟨⟨g2, cap2, rfl⟩, b8⟩
  obtain ⟨X, hX⟩ : ∃ X, X = w6.alloc (.cells #[.int .u8 1, .int .i64 3, .int .i64 2, .int .i64 (-1), .int .i64 0, .int .i64 (-1), .int .i64 0, .int .i64 (-1), .int .i64 0, .int .i64 3, .int .i64 0] 41) := ⟨_, rfl⟩
  have sX : ∀ o v, (#[Value.int .u8 1, .int .i64 3, .int .i64 2, .int .i64 (-1), .int .i64 0, .int .i64 (-1), .int .i64 0, .int .i64 (-1), .int .i64 0, .int .i64 3, .int .i64 0])[o]? = some v → X.cell? ⟨w6.heap.size, o, none⟩ = some v := by
    intro o v hv
    rw [hX]
    simpa [go_sem] using hv
  have lX : w6.heap.size < X.heap.size := by rw [hX]; simp
  have gX : X.cell? ⟨g, 1, none⟩ = some (.int .i64 2) := by rw [hX]; exact ((bself (w := w6)).cell (p := ⟨g, 1, none⟩) hg).trans c1
  have lg : g < X.heap.size := by omega
  rw [← hX] at b8 B7
  clear hX B6 c1
  have g8 := (b8.cell (p := ⟨g, 1, none⟩) lg).trans gX
  have D := b8
  clear b8
  go_wp2_with fail
  (with_reducible refine (turned_any 4 0 2 _).mono ?_)
  rintro e y0 ⟨rfl, d0⟩
  replace D := bchain D d0
  clear d0
  go_wp2_with fail
  (with_reducible refine (ports_2 _ (KH.out.below (bchain B7 D))).mono ?_)
  rintro e y1 ⟨rfl, d1⟩
  replace D := bchain D d1
  clear d1
  go_wp2_with fail
  (with_reducible refine (ways_1 _ (KH.out.below (bchain B7 D))).mono ?_)
  rintro e y2 ⟨rfl, d2⟩
  replace D := bchain D d2
  clear d2
  go_wp2_with fail
  (with_reducible refine (ports_9 _ (KH.out.below (bchain B7 D))).mono ?_)
  rintro e y3 ⟨rfl, d3⟩
  replace D := bchain D d3
  clear d3
  go_wp2_with fail
  (with_reducible refine (may_no _ (KH.out.below (bchain B7 D))).mono ?_)
  rintro e y4 ⟨rfl, d4⟩
  replace D := bchain D d4
  clear d4
  go_wp2_with fail
  (with_reducible refine (may_11 _ (KH.out.below (bchain B7 D))).mono ?_)
  rintro e y5 ⟨rfl, d5⟩
  replace D := bchain D d5
  clear d5
  have s0 := (D.cell (p := ⟨w6.heap.size, 0, none⟩) lX).trans (sX 0 _ rfl)
  have s1 := (D.cell (p := ⟨w6.heap.size, 1, none⟩) lX).trans (sX 1 _ rfl)
  have s2 := (D.cell (p := ⟨w6.heap.size, 2, none⟩) lX).trans (sX 2 _ rfl)
  have s3 := (D.cell (p := ⟨w6.heap.size, 3, none⟩) lX).trans (sX 3 _ rfl)
  have s4 := (D.cell (p := ⟨w6.heap.size, 4, none⟩) lX).trans (sX 4 _ rfl)
  have s5 := (D.cell (p := ⟨w6.heap.size, 5, none⟩) lX).trans (sX 5 _ rfl)
  have s6 := (D.cell (p := ⟨w6.heap.size, 6, none⟩) lX).trans (sX 6 _ rfl)
  have s7 := (D.cell (p := ⟨w6.heap.size, 7, none⟩) lX).trans (sX 7 _ rfl)
  have s8 := (D.cell (p := ⟨w6.heap.size, 8, none⟩) lX).trans (sX 8 _ rfl)
  have s9 := (D.cell (p := ⟨w6.heap.size, 9, none⟩) lX).trans (sX 9 _ rfl)
  have s10 := (D.cell (p := ⟨w6.heap.size, 10, none⟩) lX).trans (sX 10 _ rfl)
  have l5 : w6.heap.size < y5.heap.size := Nat.lt_of_lt_of_le lX D.size
  go_wp2_with fail
  (with_reducible refine (right_s _ (KH.out.below (bchain B7 D))).mono ?_)
  rintro e y6 ⟨rfl, d6⟩
  replace D := bchain D d6
  clear d6
  go_wp2_with fail
  (with_reducible refine (right_z _ (KH.out.below (bchain B7 D))).mono ?_)
  rintro e y7 ⟨rfl, d7⟩
  replace D := bchain D d7
  clear d7
  go_wp2
  go_ret
  exact ⟨rfl, bchain B7 D⟩
end Go.Proofs.YtaajbhdmnbabhaaDoor
