/-
  Which way goes, in plain words: the same both ways about.
-/
import Derived.Test.YtkphihbimdffjaaDoorPort3
namespace Go.Proofs.YtkphihbimdffjaaDoor

/-- Way n goes between i and o. -/
def hit (k : Int) (n : Nat) (i o : Int) : Prop := (n : Int) < kMany k ∧ ((i = aOf k n ∧ o = bOf k n) ∨ (i = bOf k n ∧ o = aOf k n))
instance hit.dec (k : Int) (n : Nat) (i o : Int) : Decidable (hit k n i o) := by unfold hit; infer_instance
theorem hit_comm (k : Int) (n : Nat) (i o : Int) : hit k n i o ↔ hit k n o i := by
  unfold hit
  constructor <;> rintro ⟨h, h'⟩ <;> exact ⟨h, by omega⟩

theorem way_spec (k i o : Int) : wayB k i o = decide (hit k 0 i o ∨ hit k 1 i o) ∧ wayN k i o = if hit k 1 i o then 1 else 0 := by
  rcases kCases k with ⟨rfl, _⟩ | ⟨rfl, _⟩ | ⟨rfl, _⟩ | ⟨_, _, _, _, m, _⟩
  · by_cases h0 : i = 0
    · subst h0
      by_cases g : o = 1
      · subst g; decide
      · have g' : ¬ 1 = o := fun e => g e.symm
        simp [wayB, wayN, wayF, pairs, prs, aOf, bOf, kMany, kB0, kA1, kB1, hit, g, g']
    · by_cases h1 : i = 1
      · subst h1
        by_cases g : o = 0
        · subst g; decide
        · have g' : ¬ 0 = o := fun e => g e.symm
          simp [wayB, wayN, wayF, pairs, prs, aOf, bOf, kMany, kB0, kA1, kB1, hit, g, g']
      · have h0' : ¬ 0 = i := fun e => h0 e.symm
        have h1' : ¬ 1 = i := fun e => h1 e.symm
        simp [wayB, wayN, wayF, pairs, prs, aOf, bOf, kMany, kB0, kA1, kB1, hit, h0, h1, h0', h1']
  · by_cases h0 : i = 0
    · subst h0
      by_cases g : o = 1
      · subst g; decide
      · by_cases f : o = 2
        · subst f; decide
        · have g' : ¬ 1 = o := fun e => g e.symm
          have f' : ¬ 2 = o := fun e => f e.symm
          simp [wayB, wayN, wayF, pairs, prs, aOf, bOf, kMany, kB0, kA1, kB1, hit, g, g', f, f']
    · by_cases h1 : i = 1
      · subst h1
        by_cases g : o = 0
        · subst g; decide
        · have g' : ¬ 0 = o := fun e => g e.symm
          simp [wayB, wayN, wayF, pairs, prs, aOf, bOf, kMany, kB0, kA1, kB1, hit, g, g']
      · by_cases h2 : i = 2
        · subst h2
          by_cases g : o = 0
          · subst g; decide
          · have g' : ¬ 0 = o := fun e => g e.symm
            simp [wayB, wayN, wayF, pairs, prs, aOf, bOf, kMany, kB0, kA1, kB1, hit, g, g']
        · have h0' : ¬ 0 = i := fun e => h0 e.symm
          have h1' : ¬ 1 = i := fun e => h1 e.symm
          have h2' : ¬ 2 = i := fun e => h2 e.symm
          simp [wayB, wayN, wayF, pairs, prs, aOf, bOf, kMany, kB0, kA1, kB1, hit, h0, h1, h2, h0', h1', h2']
  · by_cases h0 : i = 0
    · subst h0
      by_cases g : o = 1
      · subst g; decide
      · have g' : ¬ 1 = o := fun e => g e.symm
        simp [wayB, wayN, wayF, pairs, prs, aOf, bOf, kMany, kB0, kA1, kB1, hit, g, g']
    · by_cases h1 : i = 1
      · subst h1
        by_cases g : o = 0
        · subst g; decide
        · have g' : ¬ 0 = o := fun e => g e.symm
          simp [wayB, wayN, wayF, pairs, prs, aOf, bOf, kMany, kB0, kA1, kB1, hit, g, g']
      · by_cases h2 : i = 2
        · subst h2
          by_cases g : o = 3
          · subst g; decide
          · have g' : ¬ 3 = o := fun e => g e.symm
            simp [wayB, wayN, wayF, pairs, prs, aOf, bOf, kMany, kB0, kA1, kB1, hit, g, g']
        · by_cases h3 : i = 3
          · subst h3
            by_cases g : o = 2
            · subst g; decide
            · have g' : ¬ 2 = o := fun e => g e.symm
              simp [wayB, wayN, wayF, pairs, prs, aOf, bOf, kMany, kB0, kA1, kB1, hit, g, g']
          · have h0' : ¬ 0 = i := fun e => h0 e.symm
            have h1' : ¬ 1 = i := fun e => h1 e.symm
            have h2' : ¬ 2 = i := fun e => h2 e.symm
            have h3' : ¬ 3 = i := fun e => h3 e.symm
            simp [wayB, wayN, wayF, pairs, prs, aOf, bOf, kMany, kB0, kA1, kB1, hit, h0, h1, h2, h3, h0', h1', h2', h3']
  · simp [wayB, wayN, wayF, pairs, prs, hit, m]

theorem way_comm (k i o : Int) : wayB k i o = wayB k o i ∧ wayN k i o = wayN k o i := by
  rw [(way_spec k i o).1, (way_spec k i o).2, (way_spec k o i).1, (way_spec k o i).2]
  simp only [hit_comm k 0 i o, hit_comm k 1 i o, and_self]
theorem way_false {k i o : Int} (h : wayB k i o = false) : wayN k i o = 0 := by
  rw [(way_spec k i o).1] at h
  rw [(way_spec k i o).2]
  have h' := of_decide_eq_false h
  rw [if_neg (fun g => h' (.inr g))]
end Go.Proofs.YtkphihbimdffjaaDoor
