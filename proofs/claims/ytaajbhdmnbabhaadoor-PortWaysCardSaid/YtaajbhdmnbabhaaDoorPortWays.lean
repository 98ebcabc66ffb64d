/-
  The walk of PortWays, whole.
-/
import Derived.Test.YtaajbhdmnbabhaaDoorPortWays0
import Derived.Test.YtaajbhdmnbabhaaDoorPortWays1
import Derived.Test.YtaajbhdmnbabhaaDoorPortWays2
import Derived.Test.YtaajbhdmnbabhaaDoorPortWays3
namespace Go.Proofs.YtaajbhdmnbabhaaDoor
open Go.RowKit Go.Shelf

/-- At no port of the kind nothing goes. -/
theorem no_port {k i : Int} (h : i < 0 ∨ kPorts k ≤ i) : pairs k i = [] := by
  rcases kCases k with ⟨rfl, p, _⟩ | ⟨rfl, p, _⟩ | ⟨rfl, p, _⟩ | ⟨_, _, _, p, m, _⟩
  · have h0 : ¬ 0 = i := by omega
    have h1 : ¬ 1 = i := by omega
    simp [pairs, prs, aOf, bOf, kMany, kB0, h0, h1]
  · have h0 : ¬ 0 = i := by omega
    have h1 : ¬ 1 = i := by omega
    have h2 : ¬ 2 = i := by omega
    simp [pairs, prs, aOf, bOf, kMany, kB0, kA1, kB1, h0, h1, h2]
  · have h0 : ¬ 0 = i := by omega
    have h1 : ¬ 1 = i := by omega
    have h2 : ¬ 2 = i := by omega
    have h3 : ¬ 3 = i := by omega
    simp [pairs, prs, aOf, bOf, kMany, kB0, kA1, kB1, h0, h1, h2, h3]
  · simp [pairs, prs, m]

theorem portWays_walk (k i o : Int) (h0 : 0 ≤ k) (h1 : k ≤ 255) (w : World) (K : Kinds w) :
    Calls Tryd.prog 3 #[.int .u8 k, .int .i64 i, .int .i64 o] w fun e w' => e = .returned (.bool true) ∧ Below w.heap.size w w' := by
  by_cases hp : i < 0 ∨ kPorts k ≤ i
  · have hO : outs k i = [] := by unfold outs; rw [no_port hp]; rfl
    have hw : wayB k i o = false := (way_none (by rw [no_port hp]; intro x hx; cases hx)).2
    by_cases hi : i < 0
    · exact ways_lo k i o _ h0 h1 rfl hi hw hO w K
    · have hn : 0 ≤ kPorts k := by
        rcases kCases k with ⟨_, p, _⟩ | ⟨_, p, _⟩ | ⟨_, p, _⟩ | ⟨_, _, _, p, _⟩ <;> omega
      refine ways_hi k i o _ h0 h1 rfl (by omega) hn ?_ hw hO w K
      rintro rfl rfl
      have : kPorts 2 = 3 := by decide
      omega
  · rcases kCases k with ⟨rfl, p, _⟩ | ⟨rfl, p, _⟩ | ⟨rfl, p, _⟩ | ⟨_, _, _, p, _⟩
    · have hi : i = 0 ∨ i = 1 := by omega
      rcases hi with rfl | rfl
      · by_cases g : o = 1
        · subst g; exact ways_101 w K
        · exact ways_10n o ((way_spec 1 0 o).1.trans (decide_eq_false (by simp [hit, aOf, bOf, kMany, kB0, kA1, kB1, g]))) w K
      · by_cases g : o = 0
        · subst g; exact ways_110 w K
        · exact ways_11n o ((way_spec 1 1 o).1.trans (decide_eq_false (by simp [hit, aOf, bOf, kMany, kB0, kA1, kB1, g]))) w K
    · have hi : i = 0 ∨ i = 1 ∨ i = 2 := by omega
      rcases hi with rfl | rfl | rfl
      · by_cases g : o = 1
        · subst g; exact ways_201 w K
        · by_cases g2 : o = 2
          · subst g2; exact ways_202 w K
          · exact ways_20n o ((way_spec 2 0 o).1.trans (decide_eq_false (by simp [hit, aOf, bOf, kMany, kB0, kA1, kB1, g, g2]))) w K
      · by_cases g : o = 0
        · subst g; exact ways_210 w K
        · exact ways_21n o ((way_spec 2 1 o).1.trans (decide_eq_false (by simp [hit, aOf, bOf, kMany, kB0, kA1, kB1, g]))) w K
      · by_cases g : o = 0
        · subst g; exact ways_220 w K
        · exact ways_22n o ((way_spec 2 2 o).1.trans (decide_eq_false (by simp [hit, aOf, bOf, kMany, kB0, kA1, kB1, g]))) w K
    · have hi : i = 0 ∨ i = 1 ∨ i = 2 ∨ i = 3 := by omega
      rcases hi with rfl | rfl | rfl | rfl
      · by_cases g : o = 1
        · subst g; exact ways_301 w K
        · exact ways_30n o ((way_spec 3 0 o).1.trans (decide_eq_false (by simp [hit, aOf, bOf, kMany, kB0, kA1, kB1, g]))) w K
      · by_cases g : o = 0
        · subst g; exact ways_310 w K
        · exact ways_31n o ((way_spec 3 1 o).1.trans (decide_eq_false (by simp [hit, aOf, bOf, kMany, kB0, kA1, kB1, g]))) w K
      · by_cases g : o = 3
        · subst g; exact ways_323 w K
        · exact ways_32n o ((way_spec 3 2 o).1.trans (decide_eq_false (by simp [hit, aOf, bOf, kMany, kB0, kA1, kB1, g]))) w K
      · by_cases g : o = 2
        · subst g; exact ways_332 w K
        · exact ways_33n o ((way_spec 3 3 o).1.trans (decide_eq_false (by simp [hit, aOf, bOf, kMany, kB0, kA1, kB1, g]))) w K
    · omega
end Go.Proofs.YtaajbhdmnbabhaaDoor
