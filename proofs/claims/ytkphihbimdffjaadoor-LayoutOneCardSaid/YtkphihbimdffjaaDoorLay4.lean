/-
  lockbarref06.Great; the closures of layout.Right; slices.Min, Max.
-/
import Derived.Test.YtkphihbimdffjaaDoorLay3
namespace Go.Proofs.YtkphihbimdffjaaDoor
open Go.RowKit Go.Shelf

/-- Some truth value comes back. -/
def SomeBool (w : World) (e : Ending) (w' : World) : Prop := ∃ b : Bool, e = .returned (.bool b) ∧ Below w.heap.size w w'
theorem someBool {w : World} {w' : World} (b : Bool) (h : Below w.heap.size w w') : SomeBool w (.returned (.bool b)) w' := ⟨b, rfl, h⟩

set_option maxRecDepth 100000 in
set_option maxHeartbeats 2000000 in
theorem rGreat_any (L : Lay) (p : Where) (w : World) (hL : LayAt w p L) : Calls Tryd.prog 8 #[L.val p] w (SomeBool w) := by
  have hm0 : L.secs.length ≤ 9223372036854775807 := Nat.le_trans hL.l0.1 hL.l0.2
  have hm1 : L.sigs.length ≤ 9223372036854775807 := Nat.le_trans hL.l1.1 hL.l1.2
  have hm : L.exits.length ≤ 9223372036854775807 := Nat.le_trans hL.l2.1 hL.l2.2
  have hm3 : L.flanks.length ≤ 9223372036854775807 := Nat.le_trans hL.l3.1 hL.l3.2
  obtain ⟨a0, a1, a2, a3, p0, p1, p2, p3⟩ := p
  have HL := Lib.hid hL
  clear hL
  unfold Lay.val
  go_enter Tryd.func8, Tryd.ntmps8
  go_wp2_with fail
  go_loop [3] (fun s3 => ∃ n : Nat, n ≤ L.exits.length ∧ s3 = .int .i64 n) (fun s3 => L.exits.length - (intOf s3).toNat)
  case atStart => exact ⟨0, Nat.zero_le _, rfl⟩
  case round =>
    obtain ⟨n, hn, rfl⟩ := hrel
    by_cases hlt : n < L.exits.length
    · by_cases h30 : n ≤ 30
      · obtain ⟨es, hes, hAt, hov⟩ := HL.out.exits
        have hlen : es.length = L.exits.length := by rw [← hes, List.length_map]
        obtain ⟨b, off, hAe, h0, hrow⟩ := hAt.get (j := n) (by omega)
        subst hAe
        obtain ⟨y, hy⟩ : ∃ y, es[n]? = some y := ⟨es[n]'(by omega), List.getElem?_eq_getElem (by omega)⟩
        have g2 := hrow n y hy 2 _ rfl
        obtain ⟨A, cap, e2, hcap, hmax, _⟩ := hov y (List.mem_of_getElem? hy)
        rw [e2] at g2
        obtain ⟨m, hmv⟩ : ∃ m, m = y.1.over.length := ⟨_, rfl⟩
        rw [← hmv] at g2 hcap
        have hmm : m ≤ 9223372036854775807 := Nat.le_trans hcap hmax
        clear hrow hy hes hAt hov hlen e2 hcap hmax hmv HL
        have d30 : decide ((n : Int) ≤ 30) = true := decide_eq_true (by omega)
        by_cases h20 : 20 < m
        · have d20 : decide ((20 : Int) < (m : Int)) = true := decide_eq_true (by omega)
          go_wp2
          go_ret
          exact someBool _ bself
        · have d20 : decide ((20 : Int) < (m : Int)) = false := decide_eq_false (by omega)
          go_wp2
          go_round
          case rel => exact ⟨n + 1, by omega, by go_num⟩
          case measure => simp [intOf]; omega
      · clear HL
        have d30 : decide ((n : Int) ≤ 30) = false := decide_eq_false (by omega)
        have x30 : (30 : Int) < (L.exits.length : Int) := by omega
        go_wp2
        all_goals
          go_ret
          exact someBool _ bself
    · obtain rfl : n = L.exits.length := by omega
      clear HL
      go_wp2
      all_goals
        go_ret
        exact someBool _ bself

/-- May a section be, as a plain test. -/
def mayT (s q : Int) : Bool := (s == -1 && q == 0) || (decide (0 ≤ s) && decide (s < 24) && decide (0 ≤ q) && decide (q ≤ 3))
theorem mayT_eq (s q : Int) : mayB s q = mayT s q := by
  rw [Bool.eq_iff_iff]
  unfold mayB mayT
  simp
  omega
def portT (c : Sec) (i : Nat) : Bool := if (i : Int) < kPorts c.k then mayT (c.S i) (c.P i) else (c.S i == -1 && c.P i == 0)
def classT (c : Sec) (i : Nat) : Bool := decide (0 ≤ c.C i) && decide (c.C i ≤ 3) && (decide (c.C i ≤ 0) || decide ((i : Int) < kMany c.k))
def rightT (c : Sec) : Bool := (kPorts c.k != 0) && (portT c 0 && portT c 1 && portT c 2 && portT c 3) && (classT c 0 && classT c 1)
theorem portT_iff (c : Sec) (i : Nat) : portT c i = true ↔ portFine c.k c.S c.P i := by
  unfold portT portFine
  split
  · rw [mayT_eq]
  · simp
theorem classT_iff (c : Sec) (i : Nat) : classT c i = true ↔ classFine c.k c.C i := by
  unfold classT classFine
  simp
  omega
theorem rightT_eq (c : Sec) : rightB c.k c.S c.P c.C = rightT c := by
  have h : rightT c = true ↔ rightP c.k c.S c.P c.C := by
    unfold rightT rightP
    simp only [Bool.and_eq_true, bne_iff_ne, ne_eq, portT_iff, classT_iff]
    constructor
    · rintro ⟨⟨h, ⟨⟨⟨g0, g1⟩, g2⟩, g3⟩⟩, f0, f1⟩
      refine ⟨h, fun i hi => ?_, fun i hi => ?_⟩
      · have : i = 0 ∨ i = 1 ∨ i = 2 ∨ i = 3 := by omega
        rcases this with rfl | rfl | rfl | rfl <;> assumption
      · have : i = 0 ∨ i = 1 := by omega
        rcases this with rfl | rfl <;> assumption
    · rintro ⟨h, g, f⟩
      exact ⟨⟨h, ⟨⟨⟨g 0 (by decide), g 1 (by decide)⟩, g 2 (by decide)⟩, g 3 (by decide)⟩⟩, f 0 (by decide), f 1 (by decide)⟩
  by_cases r : rightP c.k c.S c.P c.C
  · rw [rightB_true r, h.2 r]
  · rw [rightB_false r]
    cases hr : rightT c with
    | false => rfl
    | true => exact absurd (h.1 hr) r

set_option maxHeartbeats 1000000 in
theorem right1_any (c : Sec) (h0 : 0 ≤ c.k) (h1 : c.k ≤ 255) (w : World) (K : Kinds w) :
    Calls Tryd.prog 34 #[.agg c.enc.toArray] w fun e w' => e = .returned (.bool (!rightT c)) ∧ Below w.heap.size w w' := by
  have hr := fun w1 (K1 : Kinds w1) => right_any c.k c.S c.P c.C h0 h1 w1 K1
  rw [rightT_eq, secV_enc] at hr
  generalize rightT c = r at hr ⊢
  unfold Sec.enc at hr ⊢
  have HR := Lib.hid hr
  have KH := Lib.hid K
  clear hr K
  go_enter Tryd.func34, Tryd.ntmps34
  go_wp2_with fail
  (with_reducible refine (HR.out _ (KH.out.below bself)).mono ?_)
  rintro e w1 ⟨rfl, b1⟩
  go_wp2
  go_ret
  exact ⟨rfl, bnew b1⟩

/-- The block g holds the layout's value. -/
def Box (W : World) (g : Nat) (L : Lay) (p : Where) : Prop := g < W.heap.size ∧ ∀ (i : Nat) (v : Value), (L.cells p)[i]? = some v → W.cell? ⟨g, i, none⟩ = some v
theorem Box.below {W W' : World} {g : Nat} {L : Lay} {p : Where} (h : Box W g L p) (hb : Below W.heap.size W W') : Box W' g L p :=
  ⟨Nat.lt_of_lt_of_le h.1 hb.size, fun i v hv => (hb.cell (p := ⟨g, i, none⟩) h.1).trans (h.2 i v hv)⟩

set_option maxRecDepth 100000 in
set_option maxHeartbeats 1000000 in
theorem right2_any (L : Lay) (p : Where) (s i o : Int) (g : Nat) (w : World) (hL : LayAt w p L) (K : Kinds w) (hB : Box w g L p) :
    Calls Tryd.prog 36 #[.agg #[.int .i64 s, .int .i64 i, .int .i64 o], .pointer (some ⟨g, 0, none⟩)] w fun e w' => e = .returned (.bool (!stepB L s i o)) ∧ Below w.heap.size w w' := by
  have hs := fun w1 (L1 : LayAt w1 p L) (K1 : Kinds w1) => step_any L p s i o w1 L1 K1
  generalize stepN L s i o = n at hs
  generalize stepB L s i o = t at hs ⊢
  unfold Lay.val at hs
  have HS := Lib.hid hs
  have KH := Lib.hid K
  have HL := Lib.hid hL
  obtain ⟨a0, a1, a2, a3, p0, p1, p2, p3⟩ := p
  have lg := hB.1
  have c0 := hB.2 0 _ rfl
  have c1 := hB.2 1 _ rfl
  have c2 := hB.2 2 _ rfl
  have c3 := hB.2 3 _ rfl
  have c4 := hB.2 4 _ rfl
  have c5 := hB.2 5 _ rfl
  have c6 := hB.2 6 _ rfl
  have c7 := hB.2 7 _ rfl
  have c8 := hB.2 8 _ rfl
  have c9 := hB.2 9 _ rfl
  have c10 := hB.2 10 _ rfl
  clear hs K hL hB
  go_enter Tryd.func36, Tryd.ntmps36
  go_wp2_with fail
  (with_reducible refine (HS.out _ (HL.out.below bself) (KH.out.below bself)).mono ?_)
  rintro e w1 ⟨rfl, b1⟩
  go_wp2
  go_ret
  exact ⟨rfl, bnew b1⟩
end Go.Proofs.YtkphihbimdffjaaDoor
