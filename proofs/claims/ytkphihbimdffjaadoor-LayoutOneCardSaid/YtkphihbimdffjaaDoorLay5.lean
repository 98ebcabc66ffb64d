/-
  layout.Right's closure of flanks; slices.Min, Max.
-/
import Derived.Test.YtkphihbimdffjaaDoorLay4
namespace Go.Proofs.YtkphihbimdffjaaDoor
open Go.RowKit Go.Shelf

def secK (L : Lay) (s : Int) : Int := match secAt L s with
  | some c => c.k
  | none => 0
def flankP (L : Lay) (s way pt pos : Int) : Prop := isSec L s = true ∧ isSec L pt = true ∧ s ≠ pt ∧ 0 ≤ pos ∧ pos ≤ 1 ∧ 0 ≤ way ∧ way < kMany (secK L s) ∧ secK L pt = 2
instance (L : Lay) (s way pt pos : Int) : Decidable (flankP L s way pt pos) := by unfold flankP; infer_instance
def flankT (L : Lay) (f : Flk) : Bool := decide (flankP L f.s f.way f.pt f.pos)
theorem isSec_get {L : Lay} {s : Int} (h : isSec L s = true) : ∃ (n : Nat) (c : Sec), s = (n : Int) ∧ n < L.secs.length ∧ L.secs[n]? = some c ∧ c ∈ L.secs ∧ secK L s = c.k := by
  obtain ⟨n, c, e, hn, hc, hs, hm⟩ := secAt_some (of_decide_eq_true h)
  exact ⟨n, c, e, hn, hc, hm, by unfold secK; rw [hs]⟩
/-- The cell that holds a section's kind. -/
theorem kind_cell {L : Lay} {p : Where} {W : World} (hL : LayAt W p L) {n : Nat} {c : Sec} (hn : n < L.secs.length) (hc : L.secs[n]? = some c) :
    ∃ b off, p.a0 = some ⟨b, off, none⟩ ∧ b < W.heap.size ∧ W.cell? ⟨b, off + n * 11, none⟩ = some (.int .u8 c.k) := by
  obtain ⟨b, off, e, h⟩ := hL.secs.get hn
  exact ⟨b, off, e, h.1, h.2 n c hc 0 _ rfl⟩

set_option maxRecDepth 100000 in
set_option maxHeartbeats 8000000 in
theorem right3_any (L : Lay) (p : Where) (f : Flk) (g : Nat) (w : World) (hL : LayAt w p L) (K : Kinds w) (hB : Box w g L p) :
    Calls Tryd.prog 37 #[.agg f.enc.toArray, .pointer (some ⟨g, 0, none⟩)] w fun e w' => e = .returned (.bool (!flankT L f)) ∧ Below w.heap.size w w' := by
  obtain ⟨s, way, pt, pos⟩ := f
  unfold Flk.enc
  have hr : flankT L ⟨s, way, pt, pos⟩ = true ↔ flankP L s way pt pos := decide_eq_true_iff
  generalize flankT L ⟨s, way, pt, pos⟩ = r at hr ⊢
  have h1 := fun w1 => section_any L p s w1
  have h2 := fun w1 => section_any L p pt w1
  unfold Lay.val at h1 h2
  have hg1 : isSec L s = true → _ := fun h => isSec_get h
  have hg2 : isSec L pt = true → _ := fun h => isSec_get h
  unfold flankP at hr
  have hlen : L.secs.length ≤ 9223372036854775807 := Nat.le_trans hL.l0.1 hL.l0.2
  obtain ⟨a, ha⟩ : ∃ a, a = isSec L s := ⟨_, rfl⟩
  obtain ⟨b, hb⟩ : ∃ b, b = isSec L pt := ⟨_, rfl⟩
  rw [← ha] at h1 hg1 hr
  rw [← hb] at h2 hg2 hr
  obtain ⟨a0, a1, a2, a3, p0, p1, p2, p3⟩ := p
  have H1 := Lib.hid h1
  have H2 := Lib.hid h2
  have HG := Lib.hid (⟨hg1, hg2⟩ : _ ∧ _)
  have KH := Lib.hid K
  have HL := Lib.hid hL
  have HR := Lib.hid hr
  have lg := hB.1
  have c0 := hB.2 0 _ rfl
  have c1 := hB.2 1 _ rfl
  have c2 := hB.2 2 _ rfl
  have c3 := hB.2 3 _ rfl
  have c4 := hB.2 4 _ rfl
  have c5 := hB.2 5 _ rfl
  have c6 := hB.2 6 _ rfl
  have c7 := hB.2 7 _ rfl
  have c8 := hB.2 8 _ rfl
  have c9 := hB.2 9 _ rfl
  have c10 := hB.2 10 _ rfl
  clear h1 h2 hg1 hg2 K hL hr hB ha hb
  cases a with
  | false =>
    have e : r = false := by
      have h := HR.out
      cases r
      · rfl
      · simp at h
    subst e
    clear HR
    go_enter Tryd.func37, Tryd.ntmps37
    go_wp2_with fail
    (with_reducible refine (H1.out _).mono ?_)
    rintro e w1 ⟨rfl, b1⟩
    go_wp2
    go_ret
    exact ⟨rfl, bnew b1⟩
  | true =>
    cases b with
    | false =>
      have e : r = false := by
        have h := HR.out
        cases r
        · rfl
        · simp at h
      subst e
      clear HR
      go_enter Tryd.func37, Tryd.ntmps37
      go_wp2_with fail
      (with_reducible refine (H1.out _).mono ?_)
      rintro e w1 ⟨rfl, b1⟩
      obtain ⟨hc, hf, hz⟩ := bcell b1
      have z0 : w.heap.size < w1.heap.size := hz _ (by simp)
      have z1 : g < w1.heap.size := hz _ (by simp <;> omega)
      have lg1 : g < w.heap.size + 1 := by omega
      go_wp2_with fail
      (with_reducible refine (H2.out _).mono ?_)
      rintro e w2 ⟨rfl, b2⟩
      go_wp2
      go_ret
      exact ⟨rfl, bchain (bnew b1) b2⟩
    | true =>
      obtain ⟨n1, s1, e1, ln1, hs1, hm1, ek1⟩ := HG.out.1 rfl
      obtain ⟨n2, s2, e2, ln2, hs2, hm2, ek2⟩ := HG.out.2 rfl
      rw [ek1, ek2] at HR
      obtain ⟨bS, off, hAe, hbS, q1⟩ := kind_cell HL.out ln1 hs1
      obtain ⟨bS', off', hAe', _, q2⟩ := kind_cell HL.out ln2 hs2
      dsimp only at hAe hAe'
      subst hAe
      simp only [Option.some.injEq, Addr.mk.injEq, and_true] at hAe'
      obtain ⟨rfl, rfl⟩ := hAe'
      have hk1 := HL.out.kinds s1 hm1
      have hw := fun w1 (K1 : Kinds w1) => ways_any s1.k hk1.1 hk1.2 w1 K1
      obtain ⟨m, hm⟩ : ∃ m, m = kMany s1.k := ⟨_, rfl⟩
      obtain ⟨k1, hk1'⟩ : ∃ k1, k1 = s1.k := ⟨_, rfl⟩
      obtain ⟨k2, hk2'⟩ : ∃ k2, k2 = s2.k := ⟨_, rfl⟩
      rw [← hm, ← hk1'] at hw
      rw [← hm, ← hk2'] at HR
      rw [← hk1'] at q1
      rw [← hk2'] at q2
      subst e1 e2
      have HW := Lib.hid hw
      clear hw hm hk1' hk2' hk1 ek1 ek2 hs1 hs2 hm1 hm2 HG HL
      go_enter Tryd.func37, Tryd.ntmps37
      go_wp2_with fail
      (with_reducible refine (H1.out _).mono ?_)
      rintro e w1 ⟨rfl, b1⟩
      obtain ⟨hc, hf, hz⟩ := bcell b1
      have z0 : w.heap.size < w1.heap.size := hz _ (by simp)
      have z1 : g < w1.heap.size := hz _ (by simp <;> omega)
      have z2 : bS < w1.heap.size := hz _ (by simp <;> omega)
      have lg1 : g < w.heap.size + 1 := by omega
      have lb1 : bS < w.heap.size + 1 := by omega
      go_wp2_with fail
      (with_reducible refine (H2.out _).mono ?_)
      rintro e w2 ⟨rfl, b2⟩
      obtain ⟨hc2, hf2, hz2⟩ := bcell b2
      have y0 : w.heap.size < w2.heap.size := hz2 _ z0
      have y1 : g < w2.heap.size := hz2 _ z1
      have y2 : bS < w2.heap.size := hz2 _ z2
      have HB2 := Lib.hid (bchain (bnew b1) b2)
      clear b1 b2 hz hz2 H1 H2
      by_cases g1 : n1 = n2
      · have e : r = false := by
          have h := HR.out
          cases r
          · rfl
          · exact absurd (congrArg (Nat.cast : Nat → Int) g1) ((h.1 rfl).2.2.1)
        subst e
        clear HR
        have d1 : (n1 == n2) = true := by simpa using g1
        go_wp2
        go_ret
        exact ⟨rfl, HB2.out⟩
      · have d1 : ((n1 : Int) == (n2 : Int)) = false := by simp; omega
        have d1' : ¬ (n1 : Int) = (n2 : Int) := by omega
        by_cases g2 : pos < 0
        · have e : r = false := by
            have h := HR.out
            cases r
            · rfl
            · have := (h.1 rfl).2.2.2.1; omega
          subst e
          clear HR
          go_wp2
          go_ret
          exact ⟨rfl, HB2.out⟩
        · have d2 : decide (pos < 0) = false := decide_eq_false g2
          by_cases g3 : 1 < pos
          · have d3 : decide ((1 : Int) < pos) = true := decide_eq_true g3
            have e : r = false := by
              have h := HR.out
              cases r
              · rfl
              · have := (h.1 rfl).2.2.2.2.1; omega
            subst e
            clear HR
            go_wp2
            go_ret
            exact ⟨rfl, HB2.out⟩
          · have d3 : decide ((1 : Int) < pos) = false := decide_eq_false g3
            have g3' : pos ≤ 1 := by omega
            by_cases g4 : way < 0
            · have d4 : decide (way < 0) = true := decide_eq_true g4
              have e : r = false := by
                have h := HR.out
                cases r
                · rfl
                · have := (h.1 rfl).2.2.2.2.2.1; omega
              subst e
              clear HR
              go_wp2
              go_ret
              exact ⟨rfl, HB2.out⟩
            · have d4 : decide (way < 0) = false := decide_eq_false g4
              by_cases g5 : m ≤ way
              · have e : r = false := by
                  have h := HR.out
                  cases r
                  · rfl
                  · have := (h.1 rfl).2.2.2.2.2.2.1; omega
                subst e
                clear HR
                have d5 : decide (m ≤ way) = true := decide_eq_true g5
                go_wp2_with fail
                refine wp_region_ext (by kernel_rfl) (by kernel_rfl) fun hx => ?_
                repeat (go_big_quiet_step ((go_at_call 38; exact Calls.ext (HW.out _ (KH.out.below (bchain HB2.out (Ext.below _)))))))
                refine wpQuiet_nil ?_
                intro w5 b5
                go_wp2
                go_ret
                exact ⟨rfl, bchain HB2.out b5⟩
              · have d5 : decide (m ≤ way) = false := decide_eq_false g5
                have e : r = decide (k2 = 2) := by
                  have h := HR.out
                  rw [Bool.eq_iff_iff, decide_eq_true_iff, h]
                  constructor
                  · intro q; exact q.2.2.2.2.2.2.2
                  · intro q; exact ⟨by simp, by simp, fun e => g1 (by omega), by omega, by omega, by omega, by omega, q⟩
                by_cases g6 : k2 = 2
                · obtain rfl : r = true := by rw [e, g6]; rfl
                  subst g6
                  clear HR e
                  go_wp2_with fail
                  refine wp_region_ext (by kernel_rfl) (by kernel_rfl) fun hx => ?_
                  repeat (go_big_quiet_step ((go_at_call 38; exact Calls.ext (HW.out _ (KH.out.below (bchain HB2.out (Ext.below _)))))))
                  refine wpQuiet_nil ?_
                  intro w5 b5
                  go_wp2
                  go_ret
                  exact ⟨rfl, bchain HB2.out b5⟩
                · obtain rfl : r = false := by rw [e]; exact decide_eq_false g6
                  have d6 : (k2 == 2) = false := by simpa using g6
                  have d7 : (k2 != 2) = true := by simpa using g6
                  clear HR e
                  go_wp2_with fail
                  refine wp_region_ext (by kernel_rfl) (by kernel_rfl) fun hx => ?_
                  repeat (go_big_quiet_step ((go_at_call 38; exact Calls.ext (HW.out _ (KH.out.below (bchain HB2.out (Ext.below _)))))))
                  refine wpQuiet_nil ?_
                  intro w5 b5
                  go_wp2
                  go_ret
                  exact ⟨rfl, bchain HB2.out b5⟩
end Go.Proofs.YtkphihbimdffjaaDoor
