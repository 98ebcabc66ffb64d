/-
  Package port: Right.
-/
import Derived.Test.YtkphihbimdffjaaDoorPort3
namespace Go.Proofs.YtkphihbimdffjaaDoor
open Go.RowKit Go.Shelf

/-- May a section be? Its ports, by number; its classes. -/
def portFine (k : Int) (S P : Nat → Int) (i : Nat) : Prop := if (i : Int) < kPorts k then mayB (S i) (P i) = true else S i = -1 ∧ P i = 0
def classFine (k : Int) (C : Nat → Int) (i : Nat) : Prop := 0 ≤ C i ∧ C i ≤ 3 ∧ (0 < C i → (i : Int) < kMany k)
def rightP (k : Int) (S P C : Nat → Int) : Prop := kPorts k ≠ 0 ∧ (∀ i, i < 4 → portFine k S P i) ∧ (∀ i, i < 2 → classFine k C i)
open Classical in
noncomputable def rightB (k : Int) (S P C : Nat → Int) : Bool := decide (rightP k S P C)
open Classical in
theorem rightB_true {k : Int} {S P C : Nat → Int} (h : rightP k S P C) : rightB k S P C = true := by unfold rightB; exact decide_eq_true h
open Classical in
theorem rightB_false {k : Int} {S P C : Nat → Int} (h : ¬ rightP k S P C) : rightB k S P C = false := by unfold rightB; exact decide_eq_false h
def secV (k : Int) (S P C : Nat → Int) : Value :=
  .agg #[.int .u8 k, .int .i64 (S 0), .int .i64 (P 0), .int .i64 (S 1), .int .i64 (P 1), .int .i64 (S 2), .int .i64 (P 2), .int .i64 (S 3), .int .i64 (P 3), .int .i64 (C 0), .int .i64 (C 1)]
section
variable (x0 x1 x2 x3 x4 x5 x6 x7 : Value) (w : World)
theorem join_at0 : (Instr.index 36 (.agg #[x0, x1, x2, x3, x4, x5, x6, x7]) (.int .i64 0)).run Tryd.prog w = .ok (.agg #[x0, x1]) w := by kernel_rfl
theorem join_at1 : (Instr.index 36 (.agg #[x0, x1, x2, x3, x4, x5, x6, x7]) (.int .i64 1)).run Tryd.prog w = .ok (.agg #[x2, x3]) w := by kernel_rfl
theorem join_at2 : (Instr.index 36 (.agg #[x0, x1, x2, x3, x4, x5, x6, x7]) (.int .i64 2)).run Tryd.prog w = .ok (.agg #[x4, x5]) w := by kernel_rfl
theorem join_at3 : (Instr.index 36 (.agg #[x0, x1, x2, x3, x4, x5, x6, x7]) (.int .i64 3)).run Tryd.prog w = .ok (.agg #[x6, x7]) w := by kernel_rfl
theorem class_at0 : (Instr.index 37 (.agg #[x0, x1]) (.int .i64 0)).run Tryd.prog w = .ok x0 w := by kernel_rfl
theorem class_at1 : (Instr.index 37 (.agg #[x0, x1]) (.int .i64 1)).run Tryd.prog w = .ok x1 w := by kernel_rfl
end
attribute [local go_sem] join_at0 join_at1 join_at2 join_at3 class_at0 class_at1

set_option maxRecDepth 100000 in
set_option maxHeartbeats 4000000 in
theorem right_any (k : Int) (S P C : Nat → Int) (h0 : 0 ≤ k) (h1 : k ≤ 255) (w : World) (K : Kinds w) :
    Calls Tryd.prog 35 #[secV k S P C] w fun e w' => e = .returned (.bool (rightB k S P C)) ∧ Below w.heap.size w w' := by
  obtain ⟨b, hb⟩ : ∃ b, b = rightB k S P C := ⟨_, rfl⟩
  have bt : rightP k S P C → b = true := fun h => hb.trans (rightB_true h)
  have bf : ¬ rightP k S P C → b = false := fun h => hb.trans (rightB_false h)
  rw [← hb]
  clear hb
  have ho := fun w1 (K1 : Kinds w1) => of_any k h0 h1 w1 K1
  unfold rowV at ho
  obtain ⟨np, hnp⟩ : ∃ np, np = kPorts k := ⟨_, rfl⟩
  obtain ⟨nm, hnm⟩ : ∃ nm, nm = kMany k := ⟨_, rfl⟩
  rw [← hnp, ← hnm] at ho
  have HN := Lib.hid (⟨hnp, hnm⟩ : _ ∧ _)
  have HO := Lib.hid ho
  have KH := Lib.hid K
  have HT := Lib.hid bt
  have HF := Lib.hid bf
  clear hnp hnm ho K bt bf
  unfold secV
  go_enter Tryd.func35, Tryd.ntmps35
  go_wp2_with fail
  (with_reducible refine (HO.out _ (KH.out.below bself)).mono ?_)
  rintro e w1 ⟨rfl, hb1⟩
  have hB1 := bnew hb1
  obtain ⟨hc, hf, hz⟩ := bcell hb1
  have lz : w.heap.size < w1.heap.size := hz _ (by simp)
  by_cases hnp : np = 0
  · have e : b = false := HF.out (fun h => h.1 (HN.out.1 ▸ hnp))
    subst e
    subst hnp
    go_wp2
    go_ret
    exact ⟨rfl, bchain hB1 bself⟩
  · have hd : (np == 0) = false := by simpa using hnp
    go_wp2_with fail
    obtain ⟨R, hR⟩ : ∃ R, R = w1.alloc (.cells #[.int .i64 np, .int .i64 0, .int .i64 (kB0 k), .int .i64 (kA1 k), .int .i64 (kB1 k), .int .i64 nm, .bool (kPoint k)] 100) := ⟨_, rfl⟩
    have hBR : Below w.heap.size w R := by rw [hR]; exact bchain hB1 bself
    have hsR : R.heap.size = w1.heap.size + 1 := by rw [hR]; simp
    have r0 : R.cell? ⟨w1.heap.size, 0, none⟩ = some (.int .i64 np) := by rw [hR]; simp [go_sem]
    have r5 : R.cell? ⟨w1.heap.size, 5, none⟩ = some (.int .i64 nm) := by rw [hR]; simp [go_sem]
    have s9 : R.cell? ⟨w.heap.size, 9, none⟩ = some (.int .i64 (C 0)) := by rw [hR]; simp [go_sem, hc, lz]
    have s10 : R.cell? ⟨w.heap.size, 10, none⟩ = some (.int .i64 (C 1)) := by rw [hR]; simp [go_sem, hc, lz]
    have KR : Kinds R := KH.out.below hBR
    have q0 := KR.pnone 0 _ rfl
    have q1 := KR.pnone 1 _ rfl
    have lq := KR.lt0
    have HKR := Lib.hid KR
    rw [← hR]
    clear hR hb1 hB1 hc hf hz KR
    go_loopw [2, 4, 5, 16] (fun r _ _ c wr => ∃ n : Nat, n ≤ 4 ∧ c = .int .i64 n ∧ r = .bool false ∧ (∀ j, j < n → portFine k S P j) ∧ Below R.heap.size R wr)
      (fun _ _ _ c _ => 4 - (intOf c).toNat)
    case atStart => exact ⟨0, by omega, rfl, rfl, fun j hj => by omega, Below.refl _ _⟩
    case round =>
      obtain ⟨n, hn, rfl, rfl, hj, hB⟩ := hrel
      have HJ := Lib.hid hj
      clear hj
      have z0 := (hB.cell (p := ⟨w1.heap.size, 0, none⟩) (by dsimp only; omega)).trans r0
      have z5 := (hB.cell (p := ⟨w1.heap.size, 5, none⟩) (by dsimp only; omega)).trans r5
      have z9 := (hB.cell (p := ⟨w.heap.size, 9, none⟩) (by dsimp only; omega)).trans s9
      have z10 := (hB.cell (p := ⟨w.heap.size, 10, none⟩) (by dsimp only; omega)).trans s10
      have y0 := (hB.cell (p := ⟨0, 0, none⟩) lq).trans q0
      have y1 := (hB.cell (p := ⟨0, 1, none⟩) lq).trans q1
      have lw0 : 0 < wr.heap.size := Nat.lt_of_lt_of_le lq hB.size
      have lw1 : w1.heap.size < wr.heap.size := by have := hB.size; omega
      have lw2 : w.heap.size < wr.heap.size := by omega
      clear r0 r5 s9 s10 q0 q1
      by_cases h4 : n = 4
      · subst h4
        go_wp2_with fail
        go_loop [2, 6, 7, 43] (fun r _ _ c => ∃ n : Nat, n ≤ 2 ∧ c = .int .i64 n ∧ r = .bool false ∧ (∀ j, j < n → classFine k C j))
          (fun _ _ _ c => 2 - (intOf c).toNat)
        case atStart => exact ⟨0, by omega, rfl, rfl, fun j hj => by omega⟩
        case round =>
          obtain ⟨n, hn, rfl, rfl, hj⟩ := hrel
          have HC := Lib.hid hj
          clear hj
          by_cases h2 : n = 2
          · subst h2
            have e : b = true := HT.out ⟨by rw [← HN.out.1]; exact hnp, HJ.out, HC.out⟩
            subst e
            go_wp2
            go_ret
            exact ⟨rfl, bchain hBR hB⟩
          · have hn2 : n = 0 ∨ n = 1 := by omega
            clear h2
            rcases hn2 with rfl | rfl
            · by_cases hf : 0 ≤ C 0 ∧ C 0 ≤ 3 ∧ (0 < C 0 → (0 : Int) < nm)
              · have HF2 : Hid (classFine k C 0) := Lib.hid (by unfold classFine; rw [← HN.out.2]; exact hf)
                go_wp2
                all_goals
                  first
                    | (exfalso; omega)
                    | (go_roundw
                       case rel =>
                         refine ⟨1, by omega, rfl, rfl, fun j hj => ?_⟩
                         by_cases hjn : j < 0
                         · exact HC.out j hjn
                         · obtain rfl : j = 0 := by omega
                           exact HF2.out
                       case measure => simp [intOf])
              · have e : b = false := HF.out (fun h => by
                  have h' := h.2.2 0 (by omega)
                  unfold classFine at h'
                  rw [← HN.out.2] at h'
                  exact hf h')
                subst e
                go_wp2
                all_goals
                  first
                    | (exfalso; omega)
                    | (go_ret
                       exact ⟨rfl, bchain hBR hB⟩)
            · by_cases hf : 0 ≤ C 1 ∧ C 1 ≤ 3 ∧ (0 < C 1 → (1 : Int) < nm)
              · have HF2 : Hid (classFine k C 1) := Lib.hid (by unfold classFine; rw [← HN.out.2]; exact hf)
                go_wp2
                all_goals
                  first
                    | (exfalso; omega)
                    | (go_roundw
                       case rel =>
                         refine ⟨2, by omega, rfl, rfl, fun j hj => ?_⟩
                         by_cases hjn : j < 1
                         · exact HC.out j hjn
                         · obtain rfl : j = 1 := by omega
                           exact HF2.out
                       case measure => simp [intOf])
              · have e : b = false := HF.out (fun h => by
                  have h' := h.2.2 1 (by omega)
                  unfold classFine at h'
                  rw [← HN.out.2] at h'
                  exact hf h')
                subst e
                go_wp2
                all_goals
                  first
                    | (exfalso; omega)
                    | (go_ret
                       exact ⟨rfl, bchain hBR hB⟩)
      · have hn4 : n = 0 ∨ n = 1 ∨ n = 2 ∨ n = 3 := by omega
        clear h4
        rcases hn4 with rfl | rfl | rfl | rfl
        · by_cases hp : (0 : Int) < np
          · have dp : decide ((0 : Int) < np) = true := decide_eq_true hp
            have dq : decide (np ≤ (0 : Int)) = false := decide_eq_false (by omega)
            have hp2 : ¬ np ≤ (0 : Int) := by omega
            go_wp2_with fail
            (with_reducible refine (may_any (S 0) (P 0) _ (HKR.out.below (bchain hB bself))).mono ?_)
            rintro e w2 ⟨rfl, hb2⟩
            obtain ⟨hc2, hf2, hz2⟩ := bcell hb2
            have hB2 := bchain hB (bnew hb2)
            obtain ⟨m, hm⟩ : ∃ m, m = mayB (S 0) (P 0) := ⟨_, rfl⟩
            rw [← hm]
            have HM := Lib.hid hm
            clear hm hb2
            cases m with
            | true =>
              go_wp2
              go_roundw
              case rel =>
                refine ⟨1, by omega, rfl, rfl, fun j hj => ?_, hB2⟩
                by_cases hjn : j < 0
                · exact HJ.out j hjn
                · obtain rfl : j = 0 := by omega
                  unfold portFine
                  rw [if_pos (by rw [← HN.out.1]; exact hp)]
                  exact HM.out.symm
              case measure => simp [intOf]
            | false =>
              have e : b = false := HF.out (fun h => by
                have h' := h.2.1 0 (by omega)
                unfold portFine at h'
                rw [if_pos (by rw [← HN.out.1]; exact hp), ← HM.out] at h'
                cases h')
              subst e
              go_wp2
              go_ret
              exact ⟨rfl, bchain hBR hB2⟩
          · have dp : decide ((0 : Int) < np) = false := decide_eq_false hp
            have dq : decide (np ≤ (0 : Int)) = true := decide_eq_true (by omega)
            have hp2 : np ≤ (0 : Int) := by omega
            by_cases hq : S 0 = -1 ∧ P 0 = 0
            · obtain ⟨q1, q2⟩ := hq
              have QQ := Lib.hid (⟨q1, q2⟩ : _ ∧ _)
              go_wp2
              go_roundw
              case rel =>
                refine ⟨1, by omega, rfl, rfl, fun j hj => ?_, bchain hB bself⟩
                by_cases hjn : j < 0
                · exact HJ.out j hjn
                · obtain rfl : j = 0 := by omega
                  unfold portFine
                  rw [if_neg (by rw [← HN.out.1]; exact hp)]
                  exact QQ.out
              case measure => simp [intOf]
            · have e : b = false := HF.out (fun h => by
                have h' := h.2.1 0 (by omega)
                unfold portFine at h'
                rw [if_neg (by rw [← HN.out.1]; exact hp)] at h'
                exact hq h')
              subst e
              go_wp2
              all_goals
                first
                  | (exfalso; omega)
                  | (go_ret
                     exact ⟨rfl, bchain hBR (bchain hB bself)⟩)
        · by_cases hp : (1 : Int) < np
          · have dp : decide ((1 : Int) < np) = true := decide_eq_true hp
            have dq : decide (np ≤ (1 : Int)) = false := decide_eq_false (by omega)
            have hp2 : ¬ np ≤ (1 : Int) := by omega
            go_wp2_with fail
            (with_reducible refine (may_any (S 1) (P 1) _ (HKR.out.below (bchain hB bself))).mono ?_)
            rintro e w2 ⟨rfl, hb2⟩
            obtain ⟨hc2, hf2, hz2⟩ := bcell hb2
            have hB2 := bchain hB (bnew hb2)
            obtain ⟨m, hm⟩ : ∃ m, m = mayB (S 1) (P 1) := ⟨_, rfl⟩
            rw [← hm]
            have HM := Lib.hid hm
            clear hm hb2
            cases m with
            | true =>
              go_wp2
              go_roundw
              case rel =>
                refine ⟨2, by omega, rfl, rfl, fun j hj => ?_, hB2⟩
                by_cases hjn : j < 1
                · exact HJ.out j hjn
                · obtain rfl : j = 1 := by omega
                  unfold portFine
                  rw [if_pos (by rw [← HN.out.1]; exact hp)]
                  exact HM.out.symm
              case measure => simp [intOf]
            | false =>
              have e : b = false := HF.out (fun h => by
                have h' := h.2.1 1 (by omega)
                unfold portFine at h'
                rw [if_pos (by rw [← HN.out.1]; exact hp), ← HM.out] at h'
                cases h')
              subst e
              go_wp2
              go_ret
              exact ⟨rfl, bchain hBR hB2⟩
          · have dp : decide ((1 : Int) < np) = false := decide_eq_false hp
            have dq : decide (np ≤ (1 : Int)) = true := decide_eq_true (by omega)
            have hp2 : np ≤ (1 : Int) := by omega
            by_cases hq : S 1 = -1 ∧ P 1 = 0
            · obtain ⟨q1, q2⟩ := hq
              have QQ := Lib.hid (⟨q1, q2⟩ : _ ∧ _)
              go_wp2
              go_roundw
              case rel =>
                refine ⟨2, by omega, rfl, rfl, fun j hj => ?_, bchain hB bself⟩
                by_cases hjn : j < 1
                · exact HJ.out j hjn
                · obtain rfl : j = 1 := by omega
                  unfold portFine
                  rw [if_neg (by rw [← HN.out.1]; exact hp)]
                  exact QQ.out
              case measure => simp [intOf]
            · have e : b = false := HF.out (fun h => by
                have h' := h.2.1 1 (by omega)
                unfold portFine at h'
                rw [if_neg (by rw [← HN.out.1]; exact hp)] at h'
                exact hq h')
              subst e
              go_wp2
              all_goals
                first
                  | (exfalso; omega)
                  | (go_ret
                     exact ⟨rfl, bchain hBR (bchain hB bself)⟩)
        · by_cases hp : (2 : Int) < np
          · have dp : decide ((2 : Int) < np) = true := decide_eq_true hp
            have dq : decide (np ≤ (2 : Int)) = false := decide_eq_false (by omega)
            have hp2 : ¬ np ≤ (2 : Int) := by omega
            go_wp2_with fail
            (with_reducible refine (may_any (S 2) (P 2) _ (HKR.out.below (bchain hB bself))).mono ?_)
            rintro e w2 ⟨rfl, hb2⟩
            obtain ⟨hc2, hf2, hz2⟩ := bcell hb2
            have hB2 := bchain hB (bnew hb2)
            obtain ⟨m, hm⟩ : ∃ m, m = mayB (S 2) (P 2) := ⟨_, rfl⟩
            rw [← hm]
            have HM := Lib.hid hm
            clear hm hb2
            cases m with
            | true =>
              go_wp2
              go_roundw
              case rel =>
                refine ⟨3, by omega, rfl, rfl, fun j hj => ?_, hB2⟩
                by_cases hjn : j < 2
                · exact HJ.out j hjn
                · obtain rfl : j = 2 := by omega
                  unfold portFine
                  rw [if_pos (by rw [← HN.out.1]; exact hp)]
                  exact HM.out.symm
              case measure => simp [intOf]
            | false =>
              have e : b = false := HF.out (fun h => by
                have h' := h.2.1 2 (by omega)
                unfold portFine at h'
                rw [if_pos (by rw [← HN.out.1]; exact hp), ← HM.out] at h'
                cases h')
              subst e
              go_wp2
              go_ret
              exact ⟨rfl, bchain hBR hB2⟩
          · have dp : decide ((2 : Int) < np) = false := decide_eq_false hp
            have dq : decide (np ≤ (2 : Int)) = true := decide_eq_true (by omega)
            have hp2 : np ≤ (2 : Int) := by omega
            by_cases hq : S 2 = -1 ∧ P 2 = 0
            · obtain ⟨q1, q2⟩ := hq
              have QQ := Lib.hid (⟨q1, q2⟩ : _ ∧ _)
              go_wp2
              go_roundw
              case rel =>
                refine ⟨3, by omega, rfl, rfl, fun j hj => ?_, bchain hB bself⟩
                by_cases hjn : j < 2
                · exact HJ.out j hjn
                · obtain rfl : j = 2 := by omega
                  unfold portFine
                  rw [if_neg (by rw [← HN.out.1]; exact hp)]
                  exact QQ.out
              case measure => simp [intOf]
            · have e : b = false := HF.out (fun h => by
                have h' := h.2.1 2 (by omega)
                unfold portFine at h'
                rw [if_neg (by rw [← HN.out.1]; exact hp)] at h'
                exact hq h')
              subst e
              go_wp2
              all_goals
                first
                  | (exfalso; omega)
                  | (go_ret
                     exact ⟨rfl, bchain hBR (bchain hB bself)⟩)
        · by_cases hp : (3 : Int) < np
          · have dp : decide ((3 : Int) < np) = true := decide_eq_true hp
            have dq : decide (np ≤ (3 : Int)) = false := decide_eq_false (by omega)
            have hp2 : ¬ np ≤ (3 : Int) := by omega
            go_wp2_with fail
            (with_reducible refine (may_any (S 3) (P 3) _ (HKR.out.below (bchain hB bself))).mono ?_)
            rintro e w2 ⟨rfl, hb2⟩
            obtain ⟨hc2, hf2, hz2⟩ := bcell hb2
            have hB2 := bchain hB (bnew hb2)
            obtain ⟨m, hm⟩ : ∃ m, m = mayB (S 3) (P 3) := ⟨_, rfl⟩
            rw [← hm]
            have HM := Lib.hid hm
            clear hm hb2
            cases m with
            | true =>
              go_wp2
              go_roundw
              case rel =>
                refine ⟨4, by omega, rfl, rfl, fun j hj => ?_, hB2⟩
                by_cases hjn : j < 3
                · exact HJ.out j hjn
                · obtain rfl : j = 3 := by omega
                  unfold portFine
                  rw [if_pos (by rw [← HN.out.1]; exact hp)]
                  exact HM.out.symm
              case measure => simp [intOf]
            | false =>
              have e : b = false := HF.out (fun h => by
                have h' := h.2.1 3 (by omega)
                unfold portFine at h'
                rw [if_pos (by rw [← HN.out.1]; exact hp), ← HM.out] at h'
                cases h')
              subst e
              go_wp2
              go_ret
              exact ⟨rfl, bchain hBR hB2⟩
          · have dp : decide ((3 : Int) < np) = false := decide_eq_false hp
            have dq : decide (np ≤ (3 : Int)) = true := decide_eq_true (by omega)
            have hp2 : np ≤ (3 : Int) := by omega
            by_cases hq : S 3 = -1 ∧ P 3 = 0
            · obtain ⟨q1, q2⟩ := hq
              have QQ := Lib.hid (⟨q1, q2⟩ : _ ∧ _)
              go_wp2
              go_roundw
              case rel =>
                refine ⟨4, by omega, rfl, rfl, fun j hj => ?_, bchain hB bself⟩
                by_cases hjn : j < 3
                · exact HJ.out j hjn
                · obtain rfl : j = 3 := by omega
                  unfold portFine
                  rw [if_neg (by rw [← HN.out.1]; exact hp)]
                  exact QQ.out
              case measure => simp [intOf]
            · have e : b = false := HF.out (fun h => by
                have h' := h.2.1 3 (by omega)
                unfold portFine at h'
                rw [if_neg (by rw [← HN.out.1]; exact hp)] at h'
                exact hq h')
              subst e
              go_wp2
              all_goals
                first
                  | (exfalso; omega)
                  | (go_ret
                     exact ⟨rfl, bchain hBR (bchain hB bself)⟩)
end Go.Proofs.YtkphihbimdffjaaDoor
