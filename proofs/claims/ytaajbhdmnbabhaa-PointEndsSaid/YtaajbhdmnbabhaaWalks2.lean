/-
  The walk of PointCalls.
-/
import Derived.Test.YtaajbhdmnbabhaaWakes
namespace Go.Proofs.Ytaajbhdmnbabhaa
open Go.RowKit Go.Shelf

theorem rright_as {a r : Int} {f : Bool} {t : Bool} (h : rightB a r f = t) (w : World) :
    Calls Try.prog 14 #[mv a r f] w fun e w' => e = .returned (.bool t) ∧ Below w.heap.size w w' := h ▸ rright_any a r f w
theorem callM_rest {a r : Int} {f : Bool} {p : Int} (h : rightB a r f = false ∨ posB p = false) : callM a r f p = (-1, 0, false) := by
  unfold callM
  rw [if_neg]
  rintro ⟨h1, h2⟩
  rcases h with h | h <;> simp_all
theorem callM_same {a r : Int} {f : Bool} {p : Int} (h1 : rightB a r f = true) (h2 : posB p = true) (h3 : a = p) (h4 : f = false) : callM a r f p = (a, r, f) := by
  unfold callM
  rw [if_pos ⟨h1, h2⟩, if_pos ⟨h3, h4⟩]
theorem callM_new {a r : Int} {f : Bool} {p : Int} (h1 : rightB a r f = true) (h2 : posB p = true) (h3 : ¬ (a = p ∧ f = false)) : callM a r f p = (p, 0, false) := by
  unfold callM
  rw [if_pos ⟨h1, h2⟩, if_neg h3]
theorem rightB_new {p : Int} (h : posB p = true) : rightB p 0 false = true := by rw [rightB_iff]; rw [posB_iff] at h; omega
theorem callM_again {t1 t2 : Int} {t3 : Bool} {p : Int} (h : rightB t1 t2 t3 = true) : ∃ d1 d2 d3, callM t1 t2 t3 p = (d1, d2, d3) ∧ callM d1 d2 d3 p = (d1, d2, d3) := by
  cases hp : posB p
  · exact ⟨_, _, _, callM_rest (.inr hp), callM_rest (.inr hp)⟩
  · by_cases hs : t1 = p ∧ t3 = false
    · exact ⟨_, _, _, callM_same h hp hs.1 hs.2, callM_same h hp hs.1 hs.2⟩
    · exact ⟨_, _, _, callM_new h hp hs, callM_same (rightB_new hp) hp rfl rfl⟩

set_option maxRecDepth 100000 in
set_option maxHeartbeats 1000000 in
theorem callsLaw_walk (a r : Int) (f : Bool) (p : Int) (w : World) :
    Calls Try.prog 5 #[mv a r f, .int .i64 p] w fun e w' => e = .returned (.bool true) ∧ Below w.heap.size w w' := by
  have hcases : ∃ t1 t2 t3, callM a r f p = (t1, t2, t3) ∧ rightB t1 t2 t3 = true ∧ (((rightB a r f = false ∧ t1 = -1 ∧ t2 = 0 ∧ t3 = false) ∨ (rightB a r f = true ∧ ¬ p = 0 ∧ ¬ p = 1 ∧ t1 = -1 ∧ t2 = 0 ∧ t3 = false)) ∨ (rightB a r f = true ∧ (p = 0 ∨ p = 1) ∧ a = p ∧ f = false ∧ t1 = a ∧ t2 = r ∧ t3 = f) ∨ (rightB a r f = true ∧ (p = 0 ∨ p = 1) ∧ ¬ (a = p ∧ f = false) ∧ t1 = p ∧ t2 = 0 ∧ t3 = false)) := by
    cases hR : rightB a r f
    · exact ⟨_, _, _, callM_rest (.inl hR), by decide, .inl (.inl ⟨rfl, rfl, rfl, rfl⟩)⟩
    · cases hp : posB p
      · refine ⟨_, _, _, callM_rest (.inr hp), by decide, .inl (.inr ⟨rfl, by rw [posB_not] at hp; omega, by rw [posB_not] at hp; omega, rfl, rfl, rfl⟩)⟩
      · have hp2 := posB_iff.1 hp
        by_cases hs : a = p ∧ f = false
        · exact ⟨_, _, _, callM_same hR hp hs.1 hs.2, hR, .inr (.inl ⟨rfl, hp2, hs.1, hs.2, rfl, rfl, rfl⟩)⟩
        · exact ⟨_, _, _, callM_new hR hp hs, rightB_new hp, .inr (.inr ⟨rfl, hp2, hs, rfl, rfl, rfl⟩)⟩
  obtain ⟨t1, t2, t3, ht, hRt, hc⟩ := hcases
  obtain ⟨d1, d2, d3, hd, hdd⟩ := callM_again (p := p) hRt
  have HT := Lib.hid ht
  have HRT := Lib.hid hRt
  have HD := Lib.hid hd
  have HDD := Lib.hid hdd
  have HC := Lib.hid hc
  clear ht hRt hd hdd hc
  go_enter Try.func5, Try.ntmps5
  go_wp2_with fail
  refine (callM_as HT.out _).mono ?_
  rintro e w1 ⟨rfl, hb1⟩
  obtain ⟨hc1, hf1, hz1⟩ := bcell hb1
  go_wp2_with fail
  refine wp_region_ext (by kernel_rfl) (by kernel_rfl) fun hx => ?_
  go_big_quiet_step (fail)
  go_big_quiet_step ((go_at_call 13; exact Calls.ext (right_as HRT.out _)))
  repeat (go_big_quiet_step (fail))
  go_big_quiet_step ((go_at_call 15; exact Calls.ext (callM_as HD.out _)))
  go_big_quiet_step (fail)
  go_big_quiet_step ((go_at_call 15; exact Calls.ext (callM_as HDD.out _)))
  go_big_quiet_step (fail)
  go_big_quiet_step (fail)
  go_big_quiet_step ((go_at_call 15; exact Calls.ext (callM_as HD.out _)))
  repeat (go_big_quiet_step (fail))
  refine wpQuiet_nil ?_
  intro w2 hb2
  have hA := bchain hb1 (bchain bself hb2)
  have k1 : ∀ o, w2.cell? ⟨w.heap.size, o, none⟩ = _ := fun o => hA.cell (p := ⟨w.heap.size, o, none⟩) (by simp)
  have k2 : ∀ o, w2.cell? ⟨w1.heap.size, o, none⟩ = _ := fun o => hb2.cell (p := ⟨w1.heap.size, o, none⟩) (by simp)
  have l1 : w.heap.size < w2.heap.size := by have := hA.size; simp at this; omega
  have l2 : w1.heap.size < w2.heap.size := by have := hb2.size; simp at this; omega
  have hB := bchain bself hA
  clear hb1 hc1 hf1 hz1 hb2 hA hx HT HRT HD HDD
  rcases HC.out with (⟨hR, rfl, rfl, rfl⟩ | ⟨hR, n0, n1, rfl, rfl, rfl⟩) | ⟨hR, hp, rfl, rfl, rfl, rfl, rfl⟩ | ⟨hR, hp, hn, rfl, rfl, rfl⟩
  case' inr.inl => rcases hp with rfl | rfl
  case' inr.inr =>
    have hn2 : ¬ a = t1 ∨ (a = t1 ∧ f = true) := by
      by_cases e : a = t1
      · right; exact ⟨e, by cases f <;> simp_all⟩
      · exact .inl e
    clear hn
    rcases hn2 with hn | ⟨rfl, rfl⟩ <;> rcases hp with rfl | rfl
  all_goals
    clear HC
    have HR := Lib.hid hR
    clear hR
    go_wp2_with fail
    refine (rright_as HR.out _).mono ?_
    rintro e w3 ⟨rfl, hb3⟩
    obtain ⟨hc3, hf3, hz3⟩ := bcell hb3
    go_wp2_with fail
  all_goals
    first
      | (refine (wakes_any _).mono ?_
         rintro e w4 ⟨rfl, hb4⟩
         go_wp2
         go_ret
         exact ⟨rfl, bchain hB (bchain hb3 hb4)⟩)
      | (refine wp_region_ext (by kernel_rfl) (by kernel_rfl) fun hx => ?_
         repeat (go_big_quiet_step ((first | (go_at_call 11; exact Calls.ext (rest_any _)) | (go_at_call 8; exact Calls.ext (wakes_any _)))))
         refine wpQuiet_nil ?_
         intro w4 hb4
         go_wp2
         go_ret
         exact ⟨rfl, bchain hB (bchain hb3 hb4)⟩)
end Go.Proofs.Ytaajbhdmnbabhaa
