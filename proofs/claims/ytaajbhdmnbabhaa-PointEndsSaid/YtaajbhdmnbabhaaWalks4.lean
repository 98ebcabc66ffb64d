/-
  The walk of PointEnds.
-/
import Derived.Test.YtaajbhdmnbabhaaWalks3
namespace Go.Proofs.Ytaajbhdmnbabhaa
open Go.RowKit Go.Shelf

/-- The slice value sv holds what a machine sees, tick by tick. -/
def Seens (B : Nat) (W : World) (sv : Value) (l : List (Int × Bool × Bool)) : Prop :=
  (∃ A cap, sv = .slice A 0 cap ∧ l = []) ∨ ∃ b off cap, sv = .slice (some ⟨b, off, none⟩) l.length cap ∧ b < B ∧ l.length ≤ 9223372036854775807 ∧
    ∀ (j : Nat) (x : Int × Bool × Bool), l[j]? = some x → W.cell? ⟨b, off + j * 3, none⟩ = some (.int .i64 x.1) ∧ W.cell? ⟨b, off + j * 3 + 1, none⟩ = some (.bool x.2.1) ∧ W.cell? ⟨b, off + j * 3 + 2, none⟩ = some (.bool x.2.2)

theorem box3 {W : World} {b : Nat} {x0 x1 x2 : Value} (y0 y1 y2 : Value) (h0 : W.cell? ⟨b, 0, none⟩ = some x0) (h1 : W.cell? ⟨b, 1, none⟩ = some x1) (h2 : W.cell? ⟨b, 2, none⟩ = some x2) :
    (((W.setCell ⟨b, 0, none⟩ y0).setCell ⟨b, 1, none⟩ y1).setCell ⟨b, 2, none⟩ y2).cell? ⟨b, 0, none⟩ = some y0 ∧
    (((W.setCell ⟨b, 0, none⟩ y0).setCell ⟨b, 1, none⟩ y1).setCell ⟨b, 2, none⟩ y2).cell? ⟨b, 1, none⟩ = some y1 ∧
    (((W.setCell ⟨b, 0, none⟩ y0).setCell ⟨b, 1, none⟩ y1).setCell ⟨b, 2, none⟩ y2).cell? ⟨b, 2, none⟩ = some y2 ∧
    (∀ o, (((W.setCell ⟨b, 0, none⟩ y0).setCell ⟨b, 1, none⟩ y1).setCell ⟨b, 2, none⟩ y2).frozen? ⟨b, o, none⟩ = W.frozen? ⟨b, o, none⟩) ∧
    (((W.setCell ⟨b, 0, none⟩ y0).setCell ⟨b, 1, none⟩ y1).setCell ⟨b, 2, none⟩ y2).heap.size = W.heap.size := by
  refine ⟨?_, ?_, ?_, ?_, ?_⟩
  · simp [go_sem, h0]
  · simp [go_sem, h1]
  · simp [go_sem, h2]
  · intro o; simp [World.frozen?_setCell]
  · simp [World.setCell]
set_option maxRecDepth 100000 in
set_option maxHeartbeats 2000000 in
theorem ends_loop (p dr : Int) (b off c : Nat) (l : List (Int × Bool × Bool)) (w : World) (hp : 0 ≤ p) (hp1 : p ≤ 1) (hd : 1 ≤ dr) (hd1 : dr ≤ 100) (hlen : l.length ≤ 150) (hb : b < w.heap.size)
    (hc : ∀ (j : Nat) (x : Int × Bool × Bool), l[j]? = some x → w.cell? ⟨b, off + j * 3, none⟩ = some (.int .i64 x.1) ∧ w.cell? ⟨b, off + j * 3 + 1, none⟩ = some (.bool x.2.1) ∧ w.cell? ⟨b, off + j * 3 + 2, none⟩ = some (.bool x.2.2)) :
    Calls Try.prog 4 #[.int .i64 p, .int .i64 dr, .slice (some ⟨b, off, none⟩) l.length c] w fun e w' => e = .returned (.bool true) ∧ Below w.heap.size w w' := by
  have hpB : posB p = true := posB_iff.2 (by omega)
  have hcall : callM (-1) 0 false p = (p, 0, false) := callM_new (by decide) hpB (by omega)
  have HCALL := Lib.hid hcall
  have HC := Lib.hid hc
  clear hcall hc
  go_enter Try.func4, Try.ntmps4
  go_wp2_with fail
  refine (rest_any _).mono ?_
  rintro e w1 ⟨rfl, hb1⟩
  go_wp2_with fail
  refine (callM_as HCALL.out _).mono ?_
  rintro e w2 ⟨rfl, hb2⟩
  replace hb2 := bchain hb1 hb2
  clear hb1
  go_wp2_with fail
  have hbm : w.heap.size ≤ w2.heap.size := hb2.size
  go_loopw [6, 8, 9, 10, 11] (fun r n i s t wr => ∃ (k : Nat) (q : Int), k ≤ l.length ∧ i = .int .i64 k ∧ n = .int .i64 q ∧ 0 ≤ q ∧ q ≤ dr ∧ r = .bool false ∧
      wr.cell? ⟨w2.heap.size, 0, none⟩ = some (.int .i64 p) ∧ wr.cell? ⟨w2.heap.size, 1, none⟩ = some (.int .i64 q) ∧ wr.cell? ⟨w2.heap.size, 2, none⟩ = some (.bool (decide (dr ≤ q))) ∧ (∀ o, wr.frozen? ⟨w2.heap.size, o, none⟩ = false) ∧ w2.heap.size < wr.heap.size ∧ Below w.heap.size w wr)
    (fun _ _ i _ _ _ => l.length - (intOf i).toNat)
  case atStart =>
    refine ⟨0, 0, Nat.zero_le _, rfl, rfl, by omega, by omega, rfl, by simp [go_sem], by simp [go_sem], ?_, by simp [go_sem], by simp, bchain hb2 bself⟩
    have : decide (dr ≤ 0) = false := by rw [decide_eq_false_iff_not]; omega
    rw [this]
    simp [go_sem]
  case round =>
    obtain ⟨k, q, hk, rfl, rfl, hq0, hq1, rfl, c0, c1, c2, cf, lw, hB⟩ := hrel
    by_cases hlt : k < l.length
    · obtain ⟨⟨x, oc, lk⟩, hx⟩ : ∃ y, l[k]? = some y := ⟨_, List.getElem?_eq_getElem hlt⟩
      obtain ⟨s0, s1, s2⟩ := HC.out k _ hx
      dsimp only at s0 s1 s2
      have s0' := (hB.cell (p := ⟨b, off + k * 3, none⟩) hb).trans s0
      have s1' := (hB.cell (p := ⟨b, off + k * 3 + 1, none⟩) hb).trans s1
      have s2' := (hB.cell (p := ⟨b, off + k * 3 + 2, none⟩) hb).trans s2
      clear s0 s1 s2 hx hk
      obtain ⟨F, hF⟩ : ∃ F, F = decide (dr ≤ q) := ⟨_, rfl⟩
      rw [← hF] at c2
      have hRt : rightB p q F = true := rightB_iff.2 (.inl ⟨by omega, by omega, by omega⟩)
      by_cases hxp : x = p
      · -- it stands there
        have HD := Lib.hid (drivesI_no (a := p) (r := q) (f := F) (p := x) (oc := oc) (lk := lk) (.inr (.inr (.inr (.inr (.inl hxp))))))
        have HP := Lib.hid (passM_rest (a := p) (r := q) (f := F) (p := x) (oc := oc) (lk := lk) (dr := dr) hp (by simpa using hxp))
        subst hxp
        have hne : ((-1 : Int) != x) = true := by simp; omega
        clear hF hRt
        go_wp2_with fail
        (with_reducible refine (drives_as HD.out _).mono ?_)
        rintro e w3 ⟨rfl, hb3⟩
        obtain ⟨hc3, hf3, hz3⟩ := bcell hb3
        go_wp2_with fail
        (with_reducible refine (passM_as HP.out _).mono ?_)
        rintro e w4 ⟨rfl, hb4⟩
        replace hb4 := bchain hb3 hb4
        clear hb3 hc3 hf3 hz3
        have hB4 := hB.trans ((bchain bself hb4).mono (by omega))
        obtain ⟨hc4, hf4, hz4⟩ := bcell hb4
        go_wp2_with fail
        have b0 := hb4.cell (p := ⟨w2.heap.size, 0, none⟩) (by simp; omega)
        have b1 := hb4.cell (p := ⟨w2.heap.size, 1, none⟩) (by simp; omega)
        have b2 := hb4.cell (p := ⟨w2.heap.size, 2, none⟩) (by simp; omega)
        have hsz := hb4.size
        have lw2 : w2.heap.size < wr.heap.size + 1 := by omega
        have t0 := hb4.cell (p := ⟨wr.heap.size, 0, none⟩) (by simp)
        simp [go_sem, c0, c1, c2, lw] at b0 b1 b2 hsz t0
        obtain ⟨d0, d1, d2, df, dz⟩ := box3 (.int .i64 (-1)) (.int .i64 0) (.bool false) b0 b1 b2
        have hB5 := ((hB4.setCell (p := ⟨w2.heap.size, 0, none⟩) hbm (.int .i64 (-1))).setCell (p := ⟨w2.heap.size, 1, none⟩) hbm (.int .i64 0)).setCell (p := ⟨w2.heap.size, 2, none⟩) hbm (.bool false)
        have t5 : (((w4.setCell ⟨w2.heap.size, 0, none⟩ (.int .i64 (-1))).setCell ⟨w2.heap.size, 1, none⟩ (.int .i64 0)).setCell ⟨w2.heap.size, 2, none⟩ (.bool false)).cell? ⟨wr.heap.size, 0, none⟩ = some (.int .i64 x) := by

          simp [go_sem, t0]
        generalize ((w4.setCell ⟨w2.heap.size, 0, none⟩ (.int .i64 (-1))).setCell ⟨w2.heap.size, 1, none⟩ (.int .i64 0)).setCell ⟨w2.heap.size, 2, none⟩ (.bool false) = W5 at *
        have l5 : w2.heap.size < W5.heap.size := by omega
        have l6 : wr.heap.size < W5.heap.size := by omega
        clear b0 b1 b2 hsz t0 df dz hb4 hc4 hf4 hz4 hB4 c0 c1 c2 cf hB s0' s1' s2' HD HP
        refine wp_region_ext (by kernel_rfl) (by kernel_rfl) fun hx => ?_
        repeat (go_big_quiet_step ((first | (go_at_call 13; exact Calls.ext (right_as (t := true) (by decide) _)) | (go_at_call 11; exact Calls.ext (rest_any _)))))
        refine wpQuiet_nil ?_
        intro W6 hb6
        have d0' := hb6.cell (p := ⟨w2.heap.size, 0, none⟩) l5
        have d1' := hb6.cell (p := ⟨w2.heap.size, 1, none⟩) l5
        have d2' := hb6.cell (p := ⟨w2.heap.size, 2, none⟩) l5
        have t6 := hb6.cell (p := ⟨wr.heap.size, 0, none⟩) l6
        rw [d0] at d0'
        rw [d1] at d1'
        rw [d2] at d2'
        rw [t5] at t6
        have hB6 := hB5.trans (hb6.mono (by omega))
        have z6 := hb6.size
        clear hb6 hB5 d0 d1 d2 t5 hx
        go_wp2_with fail
        refine wp_region_ext (by kernel_rfl) (by kernel_rfl) fun hx => ?_
        have l7 : w2.heap.size < W6.heap.size := by omega
        have l8 : wr.heap.size < W6.heap.size := by omega
        repeat (go_big_quiet_step ((first | (go_at_call 11; exact Calls.ext (rest_any _)))))
        refine wpQuiet_nil ?_
        intro W7 hb7
        have e0 := hb7.cell (p := ⟨w2.heap.size, 0, none⟩) l7
        have e1 := hb7.cell (p := ⟨w2.heap.size, 1, none⟩) l7
        have e2 := hb7.cell (p := ⟨w2.heap.size, 2, none⟩) l7
        have t7 := hb7.cell (p := ⟨wr.heap.size, 0, none⟩) l8
        rw [d0'] at e0
        rw [d1'] at e1
        rw [d2'] at e2
        rw [t6] at t7
        have hB7 := hB6.trans (hb7.mono (by omega))
        clear hb7 hB6 d0' d1' d2' t6 hx
        go_wp2_with fail
        (with_reducible refine (drives_as (t := -1) (by decide) _).mono ?_)
        rintro e w8 ⟨rfl, hb8⟩
        go_wp2_with fail
        (with_reducible refine (wakes_any _).mono ?_)
        rintro e w9 ⟨rfl, hb9⟩
        go_wp2
        go_ret
        exact ⟨rfl, hB7.trans ((bchain hb8 hb9).mono (by have := hB7.size; omega))⟩
      · have hxb : (x == p) = false := by simpa using hxp
        have hp2 : ¬ p = -1 := by omega
        by_cases hbl : F = true ∨ oc = true ∨ lk = true
        · -- it is held
          have HD := Lib.hid (drivesI_no (a := p) (r := q) (f := F) (p := x) (oc := oc) (lk := lk) (by rcases hbl with h | h | h <;> simp [h]))
          have HP := Lib.hid (passM_still (a := p) (r := q) (f := F) (p := x) (oc := oc) (lk := lk) (dr := dr) hRt (.inr hxb) (by rw [HD.out]; decide))
          have HF2 := Lib.hid hF
          have HR2 := Lib.hid hRt
          have hfd : (!(F == decide (dr ≤ q))) = false := by rw [← hF]; simp
          clear hF hRt hxp hbl
          go_wp2_with fail
          (with_reducible refine (drives_as HD.out _).mono ?_)
          rintro e w3 ⟨rfl, hb3⟩
          obtain ⟨hc3, hf3, hz3⟩ := bcell hb3
          go_wp2_with fail
          (with_reducible refine (passM_as HP.out _).mono ?_)
          rintro e w4 ⟨rfl, hb4⟩
          replace hb4 := bchain hb3 hb4
          clear hb3 hc3 hf3 hz3
          have hB4 := hB.trans ((bchain bself hb4).mono (by omega))
          obtain ⟨hc4, hf4, hz4⟩ := bcell hb4
          go_wp2_with fail
          have b0 := hb4.cell (p := ⟨w2.heap.size, 0, none⟩) (by simp; omega)
          have b1 := hb4.cell (p := ⟨w2.heap.size, 1, none⟩) (by simp; omega)
          have b2 := hb4.cell (p := ⟨w2.heap.size, 2, none⟩) (by simp; omega)
          have bf := fun o => hb4.frozen (p := ⟨w2.heap.size, o, none⟩) (by simp; omega)
          have hsz := hb4.size
          simp [go_sem, c0, c1, c2, cf, lw] at b0 b1 b2 bf hsz
          obtain ⟨d0, d1, d2, df, dz⟩ := box3 (.int .i64 p) (.int .i64 (q)) (.bool F) b0 b1 b2
          have hB5 := ((hB4.setCell (p := ⟨w2.heap.size, 0, none⟩) hbm (.int .i64 p)).setCell (p := ⟨w2.heap.size, 1, none⟩) hbm (.int .i64 (q))).setCell (p := ⟨w2.heap.size, 2, none⟩) hbm (.bool F)
          simp only [bf] at df
          generalize ((w4.setCell ⟨w2.heap.size, 0, none⟩ (.int .i64 p)).setCell ⟨w2.heap.size, 1, none⟩ (.int .i64 (q))).setCell ⟨w2.heap.size, 2, none⟩ (.bool F) = W5 at *
          have l5 : w2.heap.size < W5.heap.size := by omega
          have z5 := hB5.size
          clear b0 b1 b2 bf hsz dz hb4 hc4 hf4 hz4 hB4 c0 c1 c2 cf hB s0' s1' s2' HD HP
          refine wp_region_ext (by kernel_rfl) (by kernel_rfl) fun hx => ?_
          repeat (go_big_quiet_step ((first | (go_at_call 13; exact Calls.ext (right_as HR2.out _)) | (go_at_call 11; exact Calls.ext (rest_any _)))))
          refine wpQuiet_nil ?_
          intro W6 hb6
          have d0' := hb6.cell (p := ⟨w2.heap.size, 0, none⟩) l5
          have d1' := hb6.cell (p := ⟨w2.heap.size, 1, none⟩) l5
          have d2' := hb6.cell (p := ⟨w2.heap.size, 2, none⟩) l5
          have df' := fun o => (hb6.frozen (p := ⟨w2.heap.size, o, none⟩) l5).trans (df o)
          rw [d0] at d0'
          rw [d1] at d1'
          rw [d2] at d2'
          have hB6 := hB5.trans (hb6.mono (by omega))
          have z6 := hb6.size
          clear hb6 hB5 d0 d1 d2 df hx
          go_wp2_with fail
          refine wp_region_ext (by kernel_rfl) (by kernel_rfl) fun hx => ?_
          have l7 : w2.heap.size < W6.heap.size := by omega
          repeat (go_big_quiet_step ((first | (go_at_call 11; exact Calls.ext (rest_any _)))))
          refine wpQuiet_nil ?_
          intro W7 hb7
          have e0 := hb7.cell (p := ⟨w2.heap.size, 0, none⟩) l7
          have e1 := hb7.cell (p := ⟨w2.heap.size, 1, none⟩) l7
          have e2 := hb7.cell (p := ⟨w2.heap.size, 2, none⟩) l7
          have ef := fun o => (hb7.frozen (p := ⟨w2.heap.size, o, none⟩) l7).trans (df' o)
          rw [d0'] at e0
          rw [d1'] at e1
          rw [d2'] at e2
          have hB7 := hB6.trans (hb7.mono (by omega))
          have z7 := hb7.size
          clear hb7 hB6 d0' d1' d2' df' hx
          go_wp2_with fail
          go_roundw
          case rel => exact ⟨k + 1, q, by omega, by go_num, rfl, by omega, by omega, rfl, e0, e1, by rw [e2, HF2.out], ef, by omega, hB7⟩
          case measure => simp [intOf]; omega
        · -- it is driven
          have hF0 : F = false := by cases F <;> simp_all
          have ho : oc = false := by cases oc <;> simp_all
          have hl : lk = false := by cases lk <;> simp_all
          subst hF0 ho hl
          have hlt2 : q < dr := by have := hF; simp at this; omega
          have HD := Lib.hid (drivesI_yes (a := p) (r := q) (p := x) hRt hxp)
          have HP := Lib.hid (passM_up (a := p) (r := q) (f := false) (p := x) (oc := false) (lk := false) (dr := dr) hRt (.inr hxb) (by rw [HD.out]; omega) (by omega))
          obtain ⟨F2, hF2⟩ : ∃ F2, F2 = decide (dr ≤ q + 1) := ⟨_, rfl⟩
          rw [← hF2] at HP
          have HF2 := Lib.hid hF2
          have HR2 := Lib.hid (show rightB p (q + 1) F2 = true from rightB_iff.2 (.inl ⟨by omega, by omega, by omega⟩))
          have hfd : (!(F2 == decide (dr ≤ q + 1))) = false := by rw [← hF2]; simp
          clear hF hRt hF2 hbl
          go_wp2_with fail
          (with_reducible refine (drives_as HD.out _).mono ?_)
          rintro e w3 ⟨rfl, hb3⟩
          obtain ⟨hc3, hf3, hz3⟩ := bcell hb3
          go_wp2_with fail
          (with_reducible refine (passM_as HP.out _).mono ?_)
          rintro e w4 ⟨rfl, hb4⟩
          replace hb4 := bchain hb3 hb4
          clear hb3 hc3 hf3 hz3
          have hB4 := hB.trans ((bchain bself hb4).mono (by omega))
          obtain ⟨hc4, hf4, hz4⟩ := bcell hb4
          go_wp2_with fail
          have b0 := hb4.cell (p := ⟨w2.heap.size, 0, none⟩) (by simp; omega)
          have b1 := hb4.cell (p := ⟨w2.heap.size, 1, none⟩) (by simp; omega)
          have b2 := hb4.cell (p := ⟨w2.heap.size, 2, none⟩) (by simp; omega)
          have bf := fun o => hb4.frozen (p := ⟨w2.heap.size, o, none⟩) (by simp; omega)
          have hsz := hb4.size
          simp [go_sem, c0, c1, c2, cf, lw] at b0 b1 b2 bf hsz
          obtain ⟨d0, d1, d2, df, dz⟩ := box3 (.int .i64 p) (.int .i64 (q + 1)) (.bool F2) b0 b1 b2
          have hB5 := ((hB4.setCell (p := ⟨w2.heap.size, 0, none⟩) hbm (.int .i64 p)).setCell (p := ⟨w2.heap.size, 1, none⟩) hbm (.int .i64 (q + 1))).setCell (p := ⟨w2.heap.size, 2, none⟩) hbm (.bool F2)
          simp only [bf] at df
          generalize ((w4.setCell ⟨w2.heap.size, 0, none⟩ (.int .i64 p)).setCell ⟨w2.heap.size, 1, none⟩ (.int .i64 (q + 1))).setCell ⟨w2.heap.size, 2, none⟩ (.bool F2) = W5 at *
          have l5 : w2.heap.size < W5.heap.size := by omega
          have z5 := hB5.size
          clear b0 b1 b2 bf hsz dz hb4 hc4 hf4 hz4 hB4 c0 c1 c2 cf hB s0' s1' s2' HD HP
          refine wp_region_ext (by kernel_rfl) (by kernel_rfl) fun hx => ?_
          repeat (go_big_quiet_step ((first | (go_at_call 13; exact Calls.ext (right_as HR2.out _)) | (go_at_call 11; exact Calls.ext (rest_any _)))))
          refine wpQuiet_nil ?_
          intro W6 hb6
          have d0' := hb6.cell (p := ⟨w2.heap.size, 0, none⟩) l5
          have d1' := hb6.cell (p := ⟨w2.heap.size, 1, none⟩) l5
          have d2' := hb6.cell (p := ⟨w2.heap.size, 2, none⟩) l5
          have df' := fun o => (hb6.frozen (p := ⟨w2.heap.size, o, none⟩) l5).trans (df o)
          rw [d0] at d0'
          rw [d1] at d1'
          rw [d2] at d2'
          have hB6 := hB5.trans (hb6.mono (by omega))
          have z6 := hb6.size
          clear hb6 hB5 d0 d1 d2 df hx
          go_wp2_with fail
          refine wp_region_ext (by kernel_rfl) (by kernel_rfl) fun hx => ?_
          have l7 : w2.heap.size < W6.heap.size := by omega
          repeat (go_big_quiet_step ((first | (go_at_call 11; exact Calls.ext (rest_any _)))))
          refine wpQuiet_nil ?_
          intro W7 hb7
          have e0 := hb7.cell (p := ⟨w2.heap.size, 0, none⟩) l7
          have e1 := hb7.cell (p := ⟨w2.heap.size, 1, none⟩) l7
          have e2 := hb7.cell (p := ⟨w2.heap.size, 2, none⟩) l7
          have ef := fun o => (hb7.frozen (p := ⟨w2.heap.size, o, none⟩) l7).trans (df' o)
          rw [d0'] at e0
          rw [d1'] at e1
          rw [d2'] at e2
          have hB7 := hB6.trans (hb7.mono (by omega))
          have z7 := hb7.size
          clear hb7 hB6 d0' d1' d2' df' hx
          go_wp2_with fail
          go_roundw
          case rel => exact ⟨k + 1, q + 1, by omega, by go_num, rfl, by omega, by omega, rfl, e0, e1, by rw [e2, HF2.out], ef, by omega, hB7⟩
          case measure => simp [intOf]; omega
    · have : k = l.length := by omega
      subst this
      go_wp2_with fail
      refine (wakes_any _).mono ?_
      rintro e w3 ⟨rfl, hb3⟩
      go_wp2
      go_ret
      exact ⟨rfl, bchain hB hb3⟩

set_option maxRecDepth 100000 in
set_option maxHeartbeats 1000000 in
theorem ends_walk (p dr : Int) (a : Option Addr) (m c : Nat) (l : List (Int × Bool × Bool)) (w : World) (hm : m ≤ 9223372036854775807) (hS : Seens w.heap.size w (.slice a m c) l) :
    Calls Try.prog 4 #[.int .i64 p, .int .i64 dr, .slice a m c] w fun e w' => e = .returned (.bool true) ∧ Below w.heap.size w w' := by
  by_cases h : p < 0 ∨ 1 < p ∨ dr < 1 ∨ 100 < dr ∨ 150 < m
  · go_enter Try.func4, Try.ntmps4
    go_wp2_with fail
    all_goals
      first
        | (exfalso; omega)
        | ((with_reducible refine (wakes_any _).mono ?_)
           rintro e w1 ⟨rfl, hb1⟩
           go_wp2
           go_ret
           exact ⟨rfl, hb1⟩)
  · rcases hS with ⟨A, c0, e, rfl⟩ | ⟨b, off, cap, e, hb, _, hc⟩
    · cases e
      have hp : 0 ≤ p := by omega
      have hp1 : p ≤ 1 := by omega
      have hd : 1 ≤ dr := by omega
      have hd1 : dr ≤ 100 := by omega
      clear h
      go_enter Try.func4, Try.ntmps4
      go_wp2_with fail
      any_goals (exfalso; omega)
      refine (rest_any _).mono ?_
      rintro e w1 ⟨rfl, hb1⟩
      go_wp2_with fail
      refine (call_any _ _ _ _ _).mono ?_
      rintro e w2 ⟨rfl, hb2⟩
      go_wp2_with fail
      go_loop [9] (fun i => i = .int .i64 0) (fun _ => 0)
      case atStart => rfl
      case round =>
        subst hrel
        go_wp2_with fail
        (with_reducible refine (wakes_any _).mono ?_)
        rintro e w3 ⟨rfl, hb3⟩
        go_wp2
        go_ret
        exact ⟨rfl, bchain (bchain hb1 hb2) (bchain bself hb3)⟩
    · cases e
      exact ends_loop p dr b off c l w (by omega) (by omega) (by omega) (by omega) (by omega) hb hc
end Go.Proofs.Ytaajbhdmnbabhaa
