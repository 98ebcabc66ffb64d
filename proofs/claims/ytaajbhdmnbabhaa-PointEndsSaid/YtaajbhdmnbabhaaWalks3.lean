/-
  The walk of PointStill.
-/
import Derived.Test.YtaajbhdmnbabhaaWalks2
namespace Go.Proofs.Ytaajbhdmnbabhaa
open Go.RowKit Go.Shelf

theorem drivesI_no {a r : Int} {f : Bool} {p : Int} {oc lk : Bool} (h : rightB a r f = false ∨ f = true ∨ oc = true ∨ lk = true ∨ p = a ∨ a = -1) : drivesI a r f p oc lk = -1 := by
  unfold drivesI
  split
  · rename_i g
    obtain ⟨g1, g2, g3, g4, g5⟩ := g
    rcases h with h | h | h | h | h | h
    · rw [h] at g1; cases g1
    · rw [h] at g2; cases g2
    · rw [h] at g3; cases g3
    · rw [h] at g4; cases g4
    · exact absurd h g5
    · exact h
  · rfl
theorem drivesI_yes {a r : Int} {p : Int} (h : rightB a r false = true) (hp : ¬ p = a) : drivesI a r false p false false = a := if_pos ⟨h, rfl, rfl, rfl, hp⟩

set_option maxRecDepth 100000 in
set_option maxHeartbeats 4000000 in
theorem stillLaw_walk (a r : Int) (f : Bool) (p : Int) (oc lk : Bool) (dr : Int) (w : World) :
    Calls Try.prog 6 #[mv a r f, .int .i64 p, .bool oc, .bool lk, .int .i64 dr] w fun e w' => e = .returned (.bool true) ∧ Below w.heap.size w w' := by
  have hcases : ∃ d p1 p2 p3, drivesI a r f p oc lk = d ∧ passM a r f p oc lk dr = (p1, p2, p3) ∧
      ((rightB a r f = false ∧ d = -1 ∧ p1 = -1 ∧ p2 = 0 ∧ p3 = false) ∨ (rightB a r f = true ∧ 0 ≤ a ∧ p = a ∧ d = -1 ∧ p1 = -1 ∧ p2 = 0 ∧ p3 = false) ∨
       (rightB a r f = true ∧ (a = -1 ∨ (0 ≤ a ∧ (p == a) = false)) ∧ d = -1 ∧ p1 = a ∧ p2 = r ∧ p3 = f) ∨
       (rightB a r f = true ∧ (0 ≤ a ∧ ¬ a = -1) ∧ ¬ p = a ∧ f = false ∧ oc = false ∧ lk = false ∧ d = a ∧ p1 = a ∧ ((r < 1000 ∧ 0 ≤ r ∧ p2 = r + 1) ∨ (r = 1000 ∧ p2 = 1000)) ∧ p3 = decide (dr ≤ p2))) := by
    cases hR : rightB a r f
    · exact ⟨_, _, _, _, drivesI_no (.inl hR), passM_out hR, .inl ⟨rfl, rfl, rfl, rfl, rfl⟩⟩
    · have g := rightB_iff.1 hR
      have g0 : 0 ≤ r := by omega
      have g1 : r ≤ 1000 := by omega
      by_cases h0 : 0 ≤ a
      · by_cases hp : p = a
        · exact ⟨_, _, _, _, drivesI_no (.inr (.inr (.inr (.inr (.inl hp))))), passM_rest h0 (by simpa using hp), .inr (.inl ⟨rfl, h0, hp, rfl, rfl, rfl, rfl⟩)⟩
        · have hpb : (p == a) = false := by simpa using hp
          by_cases hn : f = true ∨ oc = true ∨ lk = true
          · have hd : drivesI a r f p oc lk = -1 := drivesI_no (by rcases hn with h | h | h <;> simp [h])
            exact ⟨_, _, _, _, hd, passM_still hR (.inr hpb) (by omega), .inr (.inr (.inl ⟨rfl, .inr ⟨h0, hpb⟩, rfl, rfl, rfl, rfl⟩))⟩
          · have hf : f = false := by cases f <;> simp_all
            have ho : oc = false := by cases oc <;> simp_all
            have hl : lk = false := by cases lk <;> simp_all
            subst hf ho hl
            have hd := drivesI_yes hR hp
            by_cases hr : r < 1000
            · exact ⟨_, _, _, _, hd, passM_up hR (.inr hpb) (by omega) hr, .inr (.inr (.inr ⟨rfl, ⟨h0, by omega⟩, hp, rfl, rfl, rfl, rfl, rfl, .inl ⟨hr, g0, rfl⟩, rfl⟩))⟩
            · exact ⟨_, _, _, _, hd, passM_top hR (.inr hpb) (by omega) hr, .inr (.inr (.inr ⟨rfl, ⟨h0, by omega⟩, hp, rfl, rfl, rfl, rfl, rfl, .inr ⟨by omega, rfl⟩, rfl⟩))⟩
      · have ha : a = -1 := by omega
        have hd : drivesI a r f p oc lk = -1 := drivesI_no (.inr (.inr (.inr (.inr (.inr ha)))))
        exact ⟨_, _, _, _, hd, passM_still hR (.inl (by omega)) (by omega), .inr (.inr (.inl ⟨rfl, .inl ha, rfl, rfl, rfl, rfl⟩))⟩
  cases f
  all_goals
    obtain ⟨d, p1, p2, p3, hd, hp, hc⟩ := hcases
    have HD := Lib.hid hd
    have HP := Lib.hid hp
    have HC := Lib.hid hc
    clear hd hp hc
    go_enter Try.func6, Try.ntmps6
    go_wp2_with fail
    refine (drives_as HD.out _).mono ?_
    rintro e w1 ⟨rfl, hb1⟩
    obtain ⟨hc1, hf1, hz1⟩ := bcell hb1
    go_wp2_with fail
    refine (passM_as HP.out _).mono ?_
    rintro e w2 ⟨rfl, hb2⟩
    have hA := bchain hb1 hb2
    have hB := bchain bself hA
    have k1 : ∀ o, w2.cell? ⟨w.heap.size, o, none⟩ = _ := fun o => hA.cell (p := ⟨w.heap.size, o, none⟩) (by simp)
    have l1 : w.heap.size < w2.heap.size := by have := hA.size; simp at this; omega
    have l2 : w.heap.size < w2.heap.size + 1 := by omega
    clear hb1 hc1 hf1 hz1 hb2 hA HD HP
    rcases HC.out with ⟨hR, rfl, rfl, rfl, rfl⟩ | ⟨hR, h0, rfl, rfl, rfl, rfl, rfl⟩ | ⟨hR, rfl | ⟨h0, hn⟩, rfl, rfl, rfl, rfl⟩ | ⟨hR, ⟨h0, h0'⟩, hn, hff, rfl, rfl, rfl, rfl, ⟨hr, hr2, rfl⟩ | ⟨rfl, rfl⟩, rfl⟩
    all_goals clear HC
    all_goals try (exact absurd hff (by decide))
    all_goals
      have HR := Lib.hid hR
      clear hR
      go_wp2_with fail
    all_goals
      (with_reducible refine (rright_as HR.out _).mono ?_)
      rintro e w3 ⟨rfl, hb3⟩
      obtain ⟨hc3, hf3, hz3⟩ := bcell hb3
      go_wp2_with fail
    all_goals
      first
        | ((with_reducible refine (wakes_any _).mono ?_)
           rintro e w4 ⟨rfl, hb4⟩
           go_wp2
           go_ret
           exact ⟨rfl, bchain hB (bchain bself (bchain hb3 hb4))⟩)
        | (refine wp_region_ext (by kernel_rfl) (by kernel_rfl) fun hx => ?_
           repeat (go_big_quiet_step ((first | (go_at_call 11; exact Calls.ext (rest_any _)) | (go_at_call 8; exact Calls.ext (wakes_any _)))))
           refine wpQuiet_nil ?_
           intro w4 hb4
           go_wp2
           go_ret
           exact ⟨rfl, bchain hB (bchain bself (bchain hb3 hb4))⟩)
end Go.Proofs.Ytaajbhdmnbabhaa
