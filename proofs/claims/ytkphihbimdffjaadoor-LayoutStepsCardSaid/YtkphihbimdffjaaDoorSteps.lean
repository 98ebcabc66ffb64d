/-
  The walk of LayoutSteps.
-/
import Derived.Test.YtkphihbimdffjaaDoorWakes
import Derived.Test.YtkphihbimdffjaaDoorLay5
namespace Go.Proofs.YtkphihbimdffjaaDoor
open Go.RowKit Go.Shelf

/-- A way's ends are ports of its section. -/
theorem way_ports {k i o : Int} (h : wayB k i o = true) : (0 ≤ i ∧ i < kPorts k) ∧ (0 ≤ o ∧ o < kPorts k) := by
  rw [(way_spec k i o).1] at h
  have h' := of_decide_eq_true h
  unfold hit at h'
  rcases kCases k with ⟨rfl, _⟩ | ⟨rfl, _⟩ | ⟨rfl, _⟩ | ⟨_, _, _, _, m, _⟩
  · simp [kMany, aOf, bOf, kPorts, kB0, kA1, kB1] at h' ⊢; omega
  · simp [kMany, aOf, bOf, kPorts, kB0, kA1, kB1] at h' ⊢; omega
  · simp [kMany, aOf, bOf, kPorts, kB0, kA1, kB1] at h' ⊢; omega
  · rw [m] at h'; omega
/-- What LayoutSteps asks of At and Step. -/
theorem steps_law (L : Lay) (s i o : Int) : (stepN L s o i = stepN L s i o ∧ stepB L s o i = stepB L s i o) ∧
    ((atO L s i = none ∨ atO L s o = none) → stepN L s i o = 0 ∧ stepB L s i o = false) ∧
    (∀ c, atO L s i = some c → stepN L s i o = wayN c.k i o ∧ stepB L s i o = wayB c.k i o) := by
  rcases step_cases L s i o with ⟨h, e, f⟩ | ⟨n, c, rfl, hn, hc, _, e, f⟩
  · rcases step_cases L s o i with ⟨_, e', f'⟩ | ⟨n, c, rfl, hn, hc, _⟩
    · refine ⟨⟨by rw [e, e'], by rw [f, f']⟩, fun _ => ⟨e, f⟩, fun c hc => ?_⟩
      rcases at_cases L s i with ⟨_, g⟩ | ⟨n, c, rfl, hn, _⟩
      · rw [g] at hc; cases hc
      · simp [isSec] at h; omega
    · simp [isSec] at h; omega
  · have hs : secAt L n = some c := by unfold secAt; rw [if_pos (by omega)]; simpa using hc
    refine ⟨⟨by simp only [stepN, hs]; exact (way_comm c.k o i).2, by simp only [stepB, hs]; exact (way_comm c.k o i).1⟩, fun h => ?_, fun c' hc' => ?_⟩
    · have hb : wayB c.k i o = false := by
        cases hx : wayB c.k i o with
        | false => rfl
        | true =>
          have g := way_ports hx
          exfalso
          rcases h with h | h
          · unfold atO at h; rw [hs, Option.bind_some, if_pos g.1] at h; cases h
          · unfold atO at h; rw [hs, Option.bind_some, if_pos g.2] at h; cases h
      rw [e, f]
      exact ⟨way_false hb, hb⟩
    · unfold atO at hc'
      rw [hs, Option.bind_some] at hc'
      split at hc'
      · obtain rfl := Option.some.inj hc'
        exact ⟨e, f⟩
      · cases hc'

set_option maxRecDepth 100000 in
set_option maxHeartbeats 8000000 in
theorem layoutSteps_walk (L : Lay) (p : Where) (s i o : Int) (w : World) (hL : LayAt w p L) (K : Kinds w) :
    Calls Tryd.prog 7 #[L.val p, .agg #[.int .i64 s, .int .i64 i, .int .i64 o]] w fun e w' => e = .returned (.bool true) ∧ Below w.heap.size w w' := by
  have hG := fun w1 (b : Below w.heap.size w w1) => rGreat_any L p w1 (hL.below b)
  have hW := fun w1 (b : Below w.heap.size w w1) => wakes_any w1 (K.below b)
  have h1 := fun w1 (b : Below w.heap.size w w1) => step_any L p s i o w1 (hL.below b) (K.below b)
  have h2 := fun w1 (b : Below w.heap.size w w1) => step_any L p s o i w1 (hL.below b) (K.below b)
  have h3 := fun w1 (b : Below w.heap.size w w1) => at_any L p s i w1 (hL.below b) (K.below b)
  have h4 := fun w1 (b : Below w.heap.size w w1) => at_any L p s o w1 (hL.below b) (K.below b)
  obtain ⟨⟨e1, e2⟩, hnone, hsome⟩ := steps_law L s i o
  rw [e1, e2] at h2
  unfold atV at h3 h4
  clear e1 e2
  generalize stepN L s i o = n at *
  generalize stepB L s i o = b at *
  generalize atO L s i = x at *
  generalize atO L s o = y at *
  have h5 : ∀ c : Sec, x = some c → ∀ w1, Below w.heap.size w w1 → Calls Tryd.prog 25 #[.int .u8 c.k, .int .i64 i, .int .i64 o] w1 fun e w' => e = .returned (.tuple #[.int .i64 n, .bool b]) ∧ Below w1.heap.size w1 w' := fun c hc w1 _ => by
    obtain ⟨g1, g2⟩ := hsome c hc
    rw [g1, g2]
    exact rWay_any c.k i o w1
  clear hsome hL K
  have HG := Lib.hid hG
  have HW := Lib.hid hW
  have H1 := Lib.hid h1
  have H2 := Lib.hid h2
  clear hG hW h1 h2
  have hcase : (x = none ∨ y = none) ∨ ∃ c d, x = some c ∧ y = some d := by
    cases x with
    | none => exact .inl (.inl rfl)
    | some c =>
      cases y with
      | none => exact .inl (.inr rfl)
      | some d => exact .inr ⟨c, d, rfl, rfl⟩
  rcases hcase with hno | ⟨c, d, rfl, rfl⟩
  · obtain ⟨rfl, rfl⟩ := hnone hno
    clear hnone h5
    have hxy : (x.isSome = false) ∨ (x.isSome = true ∧ y.isSome = false) := by
      rcases hno with rfl | rfl
      · exact .inl rfl
      · cases x
        · exact .inl rfl
        · exact .inr ⟨rfl, rfl⟩
    clear hno
    generalize x.getD zeroSec = cx at *
    generalize y.getD zeroSec = cy at *
    generalize x.isSome = bx at *
    generalize y.isSome = by' at *
    clear x y
    unfold Sec.enc at h3 h4
    have H3 := Lib.hid h3
    have H4 := Lib.hid h4
    clear h3 h4
    go_enter Tryd.func7, Tryd.ntmps7
    go_wp2_with fail
    (with_reducible refine (HG.out _ (bchain bself bself)).mono ?_)
    rintro e w1 ⟨g, rfl, b1⟩
    obtain ⟨c1, f1, l1⟩ := bcell b1
    have y1 : w.heap.size < w1.heap.size := l1 _ (by simp <;> omega)
    have z1 : w.heap.size + 1 < w1.heap.size := l1 _ (by simp)
    have B := bchain (bchain (bself (w := w) (o := _)) bself) b1
    clear b1 l1 f1
    cases g
    case true =>
      go_wp2_with fail
      (with_reducible refine (HW.out _ B).mono ?_)
      rintro e w2 ⟨rfl, b2⟩
      go_wp2
      go_ret
      exact ⟨rfl, bchain B b2⟩
    go_wp2_with fail
    (with_reducible refine (H1.out _ B).mono ?_)
    rintro e w2 ⟨rfl, b2⟩
    obtain ⟨c2, f2, l2⟩ := bcell b2
    have y2 := l2 _ y1
    have z2 := l2 _ z1
    replace B := bchain B b2
    clear b2 l2 f2
    go_wp2_with fail
    (with_reducible refine (H2.out _ B).mono ?_)
    rintro e w3 ⟨rfl, b3⟩
    obtain ⟨c3, f3, l3⟩ := bcell b3
    have y3 := l3 _ y2
    have z3 := l3 _ z2
    replace B := bchain B b3
    clear b3 l3 f3
    go_wp2_with fail
    (with_reducible refine (H3.out _ B).mono ?_)
    rintro e w4 ⟨rfl, b4⟩
    obtain ⟨c4, f4, l4⟩ := bcell b4
    have y4 := l4 _ y3
    have z4 := l4 _ z3
    replace B := bchain B b4
    clear b4 l4 f4
    go_wp2_with fail
    (with_reducible refine (H4.out _ (bchain B bself)).mono ?_)
    rintro e w5 ⟨rfl, b5⟩
    obtain ⟨c5, f5, l5⟩ := bcell b5
    have y5 := l5 w.heap.size (by simp; omega)
    have z5 := l5 (w.heap.size + 1) (by simp; omega)
    have x5 := l5 w4.heap.size (by simp)
    replace B := bchain (bchain B bself) b5
    clear b5 l5 f5
    rcases hxy with rfl | ⟨rfl, rfl⟩
    all_goals
      go_wp2_with fail
      (with_reducible refine (HW.out _ (bchain B bself)).mono ?_)
      rintro e w6 ⟨rfl, b6⟩
      go_wp2
      go_ret
      exact ⟨rfl, bchain (bchain B bself) b6⟩
  · have h5' := h5 c rfl
    clear h5 hnone
    simp only [Option.getD_some, Option.isSome_some] at h3 h4
    unfold Sec.enc at h3 h4
    have H3 := Lib.hid h3
    have H4 := Lib.hid h4
    have H5 := Lib.hid h5'
    clear h3 h4 h5'
    go_enter Tryd.func7, Tryd.ntmps7
    go_wp2_with fail
    (with_reducible refine (HG.out _ (bchain bself bself)).mono ?_)
    rintro e w1 ⟨g, rfl, b1⟩
    obtain ⟨c1, f1, l1⟩ := bcell b1
    have y1 : w.heap.size < w1.heap.size := l1 _ (by simp <;> omega)
    have z1 : w.heap.size + 1 < w1.heap.size := l1 _ (by simp)
    have B := bchain (bchain (bself (w := w) (o := _)) bself) b1
    clear b1 l1 f1
    cases g
    case true =>
      go_wp2_with fail
      (with_reducible refine (HW.out _ B).mono ?_)
      rintro e w2 ⟨rfl, b2⟩
      go_wp2
      go_ret
      exact ⟨rfl, bchain B b2⟩
    go_wp2_with fail
    (with_reducible refine (H1.out _ B).mono ?_)
    rintro e w2 ⟨rfl, b2⟩
    obtain ⟨c2, f2, l2⟩ := bcell b2
    have y2 := l2 _ y1
    have z2 := l2 _ z1
    replace B := bchain B b2
    clear b2 l2 f2
    go_wp2_with fail
    (with_reducible refine (H2.out _ B).mono ?_)
    rintro e w3 ⟨rfl, b3⟩
    obtain ⟨c3, f3, l3⟩ := bcell b3
    have y3 := l3 _ y2
    have z3 := l3 _ z2
    replace B := bchain B b3
    clear b3 l3 f3
    go_wp2_with fail
    (with_reducible refine (H3.out _ B).mono ?_)
    rintro e w4 ⟨rfl, b4⟩
    obtain ⟨c4, f4, l4⟩ := bcell b4
    have y4 := l4 _ y3
    have z4 := l4 _ z3
    replace B := bchain B b4
    clear b4 l4 f4
    go_wp2_with fail
    (with_reducible refine (H4.out _ (bchain B bself)).mono ?_)
    rintro e w5 ⟨rfl, b5⟩
    obtain ⟨c5, f5, l5⟩ := bcell b5
    have y5 := l5 w.heap.size (by simp; omega)
    have z5 := l5 (w.heap.size + 1) (by simp; omega)
    have x5 := l5 w4.heap.size (by simp)
    replace B := bchain (bchain B bself) b5
    clear b5 l5 f5
    go_wp2_with fail
    (with_reducible refine (H5.out _ (bchain B bself)).mono ?_)
    rintro e w6 ⟨rfl, b6⟩
    replace B := bchain (bchain B bself) b6
    clear b6
    cases b
    all_goals
      go_wp2_with fail
      (with_reducible refine (HW.out _ B).mono ?_)
      rintro e w7 ⟨rfl, b7⟩
      go_wp2
      go_ret
      exact ⟨rfl, bchain B b7⟩
end Go.Proofs.YtkphihbimdffjaaDoor
