/-
  lockbarref05.May, Right.
-/
import Derived.Test.YtpnnbihofoomeaaDoorM1
import Derived.Deep.DeepCutAuto
import Derived.ChangeKeysEq
import Derived.Laws.StructEq

namespace Go.Proofs.YtpnnbihofoomeaaDoor
open Go.RowKit Go.Shelf

set_option maxHeartbeats 2000000 in
theorem rMay_any (s q : Int) (w : World) :
    Calls Tryd.prog 94 #[.agg #[.int .i64 s, .int .i64 q]] w fun e w' => e = .returned (.bool (mayT s q)) ∧ Below w.heap.size w w' := by
  have hr : (s = -1 ∧ q = 0 → mayT s q = true) ∧ (¬ (s = -1 ∧ q = 0) → mayT s q = (decide (0 ≤ s) && decide (s < 24) && decide (0 ≤ q) && decide (q ≤ 3))) := by
    unfold mayT
    refine ⟨?_, fun h => ?_⟩
    · rintro ⟨rfl, rfl⟩; rfl
    · rw [show (s == -1 && q == 0) = false by simp; omega, Bool.false_or]
  generalize mayT s q = r at hr ⊢
  by_cases h : s = -1 ∧ q = 0
  · obtain rfl := hr.1 h
    obtain ⟨rfl, rfl⟩ := h
    clear hr
    go_enter Tryd.func94, Tryd.ntmps94
    go_wp2
    go_ret
    exact ⟨rfl, bself⟩
  · obtain rfl := hr.2 h
    clear hr
    have h' : ¬ s = -1 ∨ (s = -1 ∧ ¬ q = 0) := by omega
    clear h
    rcases h' with h | ⟨rfl, h⟩
    · by_cases h0 : 0 ≤ s
      · have d0 : decide (0 ≤ s) = true := decide_eq_true h0
        by_cases h1 : s < 24
        · have d1 : decide (s < 24) = true := decide_eq_true h1
          by_cases h2 : 0 ≤ q
          · have d2 : decide (0 ≤ q) = true := decide_eq_true h2
            have e : decide (q ≤ 3) = decide (q < 4) := by rw [decide_eq_decide]; omega
            rw [d0, d1, d2, e]
            go_enter Tryd.func94, Tryd.ntmps94
            go_wp2
            all_goals
              go_ret
              exact ⟨by simp [*], bself⟩
          · have d2 : decide (0 ≤ q) = false := decide_eq_false h2
            rw [d0, d1, d2]
            go_enter Tryd.func94, Tryd.ntmps94
            go_wp2
            all_goals
              go_ret
              exact ⟨rfl, bself⟩
        · have d1 : decide (s < 24) = false := decide_eq_false h1
          rw [d0, d1]
          go_enter Tryd.func94, Tryd.ntmps94
          go_wp2
          all_goals
            go_ret
            exact ⟨rfl, bself⟩
      · have d0 : decide (0 ≤ s) = false := decide_eq_false h0
        rw [d0]
        go_enter Tryd.func94, Tryd.ntmps94
        go_wp2
        all_goals
          go_ret
          exact ⟨rfl, bself⟩
    · go_enter Tryd.func94, Tryd.ntmps94
      go_wp2
      all_goals
        go_ret
        exact ⟨rfl, bself⟩

theorem kPorts_nn (k : Int) : 0 ≤ kPorts k := by
  rcases kCases k with ⟨_, h, _⟩ | ⟨_, h, _⟩ | ⟨_, h, _⟩ | ⟨_, _, _, h, _⟩ <;> omega
theorem rightT_facts (c : Sec) : (∀ i, i < 4 → portT c i = false → rightT c = false) ∧ (∀ i, i < 2 → classT c i = false → rightT c = false) ∧
    ((∀ i, i < 4 → portT c i = true) → (∀ i, i < 2 → classT c i = true) → rightT c = decide (0 < kPorts c.k)) := by
  have e : (kPorts c.k != 0) = decide (0 < kPorts c.k) := by
    have := kPorts_nn c.k
    rw [Bool.eq_iff_iff]
    simp
    omega
  unfold rightT
  refine ⟨fun i hi h => ?_, fun i hi h => ?_, fun h g => ?_⟩
  · obtain rfl | rfl | rfl | rfl : i = 0 ∨ i = 1 ∨ i = 2 ∨ i = 3 := by omega
    all_goals simp [h]
  · obtain rfl | rfl : i = 0 ∨ i = 1 := by omega
    all_goals simp [h]
  · rw [h 0 (by omega), h 1 (by omega), h 2 (by omega), h 3 (by omega), g 0 (by omega), g 1 (by omega), e]
    simp

set_option maxRecDepth 100000 in
set_option maxHeartbeats 8000000 in
theorem rRight5_any (c : Sec) (w : World) :
    Calls Tryd.prog 78 #[.agg c.enc.toArray] w fun e w' => e = .returned (.bool (rightT c)) ∧ Below w.heap.size w w' := by
  have hr := rightT_facts c
  generalize rightT c = r at hr ⊢
  have hp := fun w1 => rPorts_any c.k w1
  have hw := fun w1 => rWays_any c.k w1
  have hpt : ∀ i, portT c i = if (i : Int) < kPorts c.k then mayT (c.S i) (c.P i) else (c.S i == -1 && c.P i == 0) := fun _ => rfl
  have hct : ∀ i, classT c i = (decide (0 ≤ c.C i) && decide (c.C i ≤ 3) && (decide (c.C i ≤ 0) || decide ((i : Int) < kMany c.k))) := fun _ => rfl
  obtain ⟨np, hnp⟩ : ∃ np, np = kPorts c.k := ⟨_, rfl⟩
  obtain ⟨nm, hnm⟩ : ∃ nm, nm = kMany c.k := ⟨_, rfl⟩
  rw [← hnp] at hp hr hpt
  rw [← hnm] at hw hct
  have HR := Lib.hid hr
  have HP := Lib.hid hp
  have HW := Lib.hid hw
  have HPT := Lib.hid hpt
  have HCT := Lib.hid hct
  clear hr hp hw hpt hct hnp hnm
  have hS := BoxS.make w c
  unfold Sec.enc at hS
  unfold Sec.enc
  go_enter Tryd.func78, Tryd.ntmps78
  go_wp2_with fail
  obtain ⟨Y, hY⟩ : ∃ Y, Y = w.alloc (.cells #[.int .u8 c.k, .int .i64 c.s0, .int .i64 c.p0, .int .i64 c.s1, .int .i64 c.p1, .int .i64 c.s2, .int .i64 c.p2, .int .i64 c.s3, .int .i64 c.p3, .int .i64 c.c0, .int .i64 c.c1] 69) := ⟨_, rfl⟩
  have HB : Hid (Below w.heap.size w Y) := Lib.hid (by rw [hY]; exact bself)
  have HS : Hid (BoxS Y w.heap.size c) := Lib.hid (by rw [hY]; exact hS)
  rw [← hY]
  clear hY hS
  go_loopw [3] (fun x3 wr => ∃ n : Nat, n ≤ 4 ∧ x3 = .int .i64 n ∧ Hid (∀ j, j < n → portT c j = true) ∧ Hid (Below Y.heap.size Y wr)) (fun x3 _ => 4 - (intOf x3).toNat)
  case atStart => exact ⟨0, by omega, rfl, Lib.hid (fun j hj => absurd hj (Nat.not_lt_zero _)), Lib.hid (Below.refl _ _)⟩
  case round =>
    obtain ⟨n, hn, rfl, HJ, HBr⟩ := hrel
    obtain ⟨V, rfl⟩ : ∃ V : World, V = wr := ⟨_, rfl⟩
    by_cases hn4 : n < 4
    · have xS := HS.out.below HBr.out
      have k0 := xS.cells.1
      obtain ⟨cS, cP⟩ := xS.ports n hn4
      have lg := xS.1
      have hpn := HPT.out n
      have hrf := HR.out.1 n hn4
      generalize c.S n = sn at cS cP hpn
      generalize c.P n = pn at cP hpn
      have hm := fun w1 => rMay_any sn pn w1
      obtain ⟨pt, hpte⟩ : ∃ pt, pt = portT c n := ⟨_, rfl⟩
      rw [← hpte] at hpn hrf
      have next : pt = true → Hid (∀ j, j < n + 1 → portT c j = true) := fun h => Lib.hid fun j hj => by
        by_cases e : j = n
        · subst e; rw [← hpte]; exact h
        · exact HJ.out j (by omega)
      have NX := Lib.hid next
      clear hpte xS next
      have hn3 : (n : Int) < 4 := by omega
      by_cases hlt : (n : Int) < np
      · rw [if_pos hlt] at hpn
        have d0 : decide ((n : Int) < np) = true := decide_eq_true hlt
        have d1 : decide (np ≤ (n : Int)) = false := decide_eq_false (by omega)
        rw [← hpn] at hm
        have HM := Lib.hid hm
        clear hm hpn
        go_wp2_with fail
        (with_reducible refine (HP.out _).mono ?_)
        rintro e w1 ⟨rfl, b1⟩
        obtain ⟨c1, f1, l1⟩ := bcell b1
        have lg1 := l1 _ lg
        go_wp2_with fail
        (with_reducible refine (HM.out _).mono ?_)
        rintro e w2 ⟨rfl, b2⟩
        obtain ⟨c2, f2, l2⟩ := bcell b2
        have lg2 := l2 _ lg1
        have HB2 := Lib.hid (bchain (bchain HBr.out b1) b2)
        clear b1 b2 f1 l1 f2 l2
        cases pt
        · obtain rfl := hrf rfl
          go_wp2
          go_ret
          exact ⟨rfl, bchain HB.out HB2.out⟩
        · go_wp2_with fail
          (with_reducible refine (HP.out _).mono ?_)
          rintro e w3 ⟨rfl, b3⟩
          have HB3 := Lib.hid (bchain HB2.out b3)
          clear b3
          go_wp2
          go_roundw
          case rel => exact ⟨n + 1, by omega, by go_num, NX.out (by simp), HB3⟩
          case measure => simp [intOf]; omega
      · rw [if_neg hlt] at hpn
        have d0 : decide ((n : Int) < np) = false := decide_eq_false hlt
        have d1 : decide (np ≤ (n : Int)) = true := decide_eq_true (by omega)
        clear hm
        go_wp2_with fail
        (with_reducible refine (HP.out _).mono ?_)
        rintro e w1 ⟨rfl, b1⟩
        obtain ⟨c1, f1, l1⟩ := bcell b1
        have lg1 := l1 _ lg
        go_wp2_with fail
        (with_reducible refine (HP.out _).mono ?_)
        rintro e w2 ⟨rfl, b2⟩
        obtain ⟨c2, f2, l2⟩ := bcell b2
        have lg2 := l2 _ lg1
        have HB2 := Lib.hid (bchain (bchain HBr.out b1) b2)
        clear b1 b2 f1 l1 f2 l2
        by_cases h1 : sn = -1
        · subst h1
          by_cases h2 : pn = 0
          · subst h2
            have ht : pt = true := hpn
            subst ht
            clear hpn hrf
            go_wp2
            go_roundw
            case rel => exact ⟨n + 1, by omega, by go_num, NX.out (by simp), HB2⟩
            case measure => simp [intOf]; omega
          · have ht : pt = false := by rw [hpn]; simp [h2]
            obtain rfl := hrf ht
            clear hpn hrf ht
            go_wp2
            go_ret
            exact ⟨rfl, bchain HB.out HB2.out⟩
        · have ht : pt = false := by rw [hpn]; simp [h1]
          obtain rfl := hrf ht
          clear hpn hrf ht
          go_wp2
          go_ret
          exact ⟨rfl, bchain HB.out HB2.out⟩
    have HJ4 : Hid (∀ j, j < 4 → portT c j = true) := Lib.hid fun j hj => HJ.out j (by omega)
    have d4 : decide ((n : Int) < 4) = false := decide_eq_false (by omega)
    clear hn HJ
    go_wp2_with fail
    clear hn4 d4
    go_loopw [4] (fun x4 wr => ∃ m : Nat, m ≤ 2 ∧ x4 = .int .i64 m ∧ Hid (∀ j, j < m → classT c j = true) ∧ Hid (Below Y.heap.size Y wr)) (fun x4 _ => 2 - (intOf x4).toNat)
    case atStart => exact ⟨0, by omega, rfl, Lib.hid (fun j hj => absurd hj (Nat.not_lt_zero _)), HBr⟩
    case round =>
      obtain ⟨m, hm, rfl, HC, HBm⟩ := hrel
      obtain ⟨U, rfl⟩ : ∃ U : World, U = wr := ⟨_, rfl⟩
      have xS := HS.out.below HBm.out
      have k0 := xS.cells.1
      have lg := xS.1
      by_cases hm2 : m < 2
      · have kc := xS.classes m hm2
        have hct := HCT.out m
        have hrf := HR.out.2.1 m hm2
        generalize c.C m = cm at kc hct
        obtain ⟨ct, hcte⟩ : ∃ ct, ct = classT c m := ⟨_, rfl⟩
        rw [← hcte] at hct hrf
        have next : ct = true → Hid (∀ j, j < m + 1 → classT c j = true) := fun h => Lib.hid fun j hj => by
          by_cases e : j = m
          · subst e; rw [← hcte]; exact h
          · exact HC.out j (by omega)
        have NX := Lib.hid next
        clear hcte xS next
        have hm3 : (m : Int) < 2 := by omega
        by_cases a0 : 0 ≤ cm
        · have d0 : decide (cm < 0) = false := decide_eq_false (by omega)
          by_cases a1 : cm ≤ 3
          · have d1 : decide (3 < cm) = false := decide_eq_false (by omega)
            by_cases a2 : (m : Int) < nm
            · have d2 : decide (nm ≤ (m : Int)) = false := decide_eq_false (by omega)
              have ht : ct = true := by rw [hct]; simp [a0, a1, a2]
              subst ht
              clear hct hrf
              go_wp2_with fail
              (with_reducible refine (HW.out _).mono ?_)
              rintro e w1 ⟨rfl, b1⟩
              have HB1 := Lib.hid (bchain HBm.out b1)
              clear b1
              go_wp2
              go_roundw
              case rel => exact ⟨m + 1, by omega, by go_num, NX.out (by simp), HB1⟩
              case measure => simp [intOf]; omega
            · have d2 : decide (nm ≤ (m : Int)) = true := decide_eq_true (by omega)
              go_wp2_with fail
              (with_reducible refine (HW.out _).mono ?_)
              rintro e w1 ⟨rfl, b1⟩
              obtain ⟨c1, f1, l1⟩ := bcell b1
              have lg1 := l1 _ lg
              have HB1 := Lib.hid (bchain HBm.out b1)
              clear b1 f1 l1
              by_cases a3 : cm = 0
              · subst a3
                have ht : ct = true := by rw [hct]; simp
                subst ht
                clear hct hrf
                go_wp2
                go_roundw
                case rel => exact ⟨m + 1, by omega, by go_num, NX.out (by simp), HB1⟩
                case measure => simp [intOf]; omega
              · have ht : ct = false := by rw [hct]; simp; omega
                obtain rfl := hrf ht
                have d3 : (cm == 0) = false := by simpa using a3
                clear hct hrf ht
                go_wp2
                go_ret
                exact ⟨rfl, bchain HB.out HB1.out⟩
          · have d1 : decide (3 < cm) = true := decide_eq_true (by omega)
            have ht : ct = false := by rw [hct]; simp [a1]
            obtain rfl := hrf ht
            clear hct hrf ht
            go_wp2
            go_ret
            exact ⟨rfl, bchain HB.out HBm.out⟩
        · have d0 : decide (cm < 0) = true := decide_eq_true (by omega)
          have ht : ct = false := by rw [hct]; simp [a0]
          obtain rfl := hrf ht
          clear hct hrf ht
          go_wp2
          go_ret
          exact ⟨rfl, bchain HB.out HBm.out⟩
      obtain rfl : m = 2 := by omega
      obtain rfl := HR.out.2.2 HJ4.out HC.out
      clear hm2 hm
      go_wp2_with fail
      (with_reducible refine (HP.out _).mono ?_)
      rintro e w1 ⟨rfl, b1⟩
      go_wp2
      go_ret
      exact ⟨rfl, bchain (bchain HB.out HBm.out) b1⟩
end Go.Proofs.YtpnnbihofoomeaaDoor

/-
  layout.Right's closure of flanks; slices.Min, Max.
-/
namespace Go.Proofs.YtpnnbihofoomeaaDoor
open Go.RowKit Go.Shelf

def secK (L : Lay) (s : Int) : Int := match secAt L s with
  | some c => c.k
  | none => 0
def flankP (L : Lay) (s way pt pos : Int) : Prop := isSec L s = true ∧ isSec L pt = true ∧ s ≠ pt ∧ 0 ≤ pos ∧ pos ≤ 1 ∧ 0 ≤ way ∧ way < kMany (secK L s) ∧ secK L pt = 2
instance (L : Lay) (s way pt pos : Int) : Decidable (flankP L s way pt pos) := by unfold flankP; infer_instance
def flankT (L : Lay) (f : Flk) : Bool := decide (flankP L f.s f.way f.pt f.pos)
theorem isSec_get {L : Lay} {s : Int} (h : isSec L s = true) : ∃ (n : Nat) (c : Sec), s = (n : Int) ∧ n < L.secs.length ∧ L.secs[n]? = some c ∧ c ∈ L.secs ∧ secK L s = c.k := by
  obtain ⟨n, c, e, hn, hc, hs, hm⟩ := secAt_some (of_decide_eq_true h)
  exact ⟨n, c, e, hn, hc, hm, by unfold secK; rw [hs]⟩
/-- The cell that holds a section's kind. -/
theorem kind_cell {L : Lay} {p : Where} {W : World} (hL : LayAt W p L) {n : Nat} {c : Sec} (hn : n < L.secs.length) (hc : L.secs[n]? = some c) :
    ∃ b off, p.a0 = some ⟨b, off, none⟩ ∧ b < W.heap.size ∧ W.cell? ⟨b, off + n * 11, none⟩ = some (.int .u8 c.k) := by
  obtain ⟨b, off, e, h⟩ := hL.secs.get hn
  exact ⟨b, off, e, h.1, h.2 n c hc 0 _ rfl⟩

set_option maxRecDepth 100000 in
set_option maxHeartbeats 8000000 in
theorem right3_any (L : Lay) (p : Where) (f : Flk) (g : Nat) (w : World) (hL : LayAt w p L) (K : Kinds w) (hB : Box w g L p) :
    Calls Tryd.prog 47 #[.agg f.enc.toArray, .pointer (some ⟨g, 0, none⟩)] w fun e w' => e = .returned (.bool (!flankT L f)) ∧ Below w.heap.size w w' := by
  obtain ⟨s, way, pt, pos⟩ := f
  unfold Flk.enc
  have hr : flankT L ⟨s, way, pt, pos⟩ = true ↔ flankP L s way pt pos := decide_eq_true_iff
  generalize flankT L ⟨s, way, pt, pos⟩ = r at hr ⊢
  have h1 := fun w1 => section_any L p s w1
  have h2 := fun w1 => section_any L p pt w1
  unfold Lay.val at h1 h2
  have hg1 : isSec L s = true → _ := fun h => isSec_get h
  have hg2 : isSec L pt = true → _ := fun h => isSec_get h
  unfold flankP at hr
  have hlen : L.secs.length ≤ 9223372036854775807 := Nat.le_trans hL.l0.1 hL.l0.2
  obtain ⟨a, ha⟩ : ∃ a, a = isSec L s := ⟨_, rfl⟩
  obtain ⟨b, hb⟩ : ∃ b, b = isSec L pt := ⟨_, rfl⟩
  rw [← ha] at h1 hg1 hr
  rw [← hb] at h2 hg2 hr
  obtain ⟨a0, a1, a2, a3, p0, p1, p2, p3⟩ := p
  have H1 := Lib.hid h1
  have H2 := Lib.hid h2
  have HG := Lib.hid (⟨hg1, hg2⟩ : _ ∧ _)
  have KH := Lib.hid K
  have HL := Lib.hid hL
  have HR := Lib.hid hr
  have lg := hB.1
  have c0 := hB.2 0 _ rfl
  have c1 := hB.2 1 _ rfl
  have c2 := hB.2 2 _ rfl
  have c3 := hB.2 3 _ rfl
  have c4 := hB.2 4 _ rfl
  have c5 := hB.2 5 _ rfl
  have c6 := hB.2 6 _ rfl
  have c7 := hB.2 7 _ rfl
  have c8 := hB.2 8 _ rfl
  have c9 := hB.2 9 _ rfl
  have c10 := hB.2 10 _ rfl
  clear h1 h2 hg1 hg2 K hL hr hB ha hb
  cases a with
  | false =>
    have e : r = false := by
      have h := HR.out
      cases r
      · rfl
      · simp at h
    subst e
    clear HR
    go_enter Tryd.func47, Tryd.ntmps47
    go_wp2_with fail
    (with_reducible refine (H1.out _).mono ?_)
    rintro e w1 ⟨rfl, b1⟩
    go_wp2
    go_ret
    exact ⟨rfl, bnew b1⟩
  | true =>
    cases b with
    | false =>
      have e : r = false := by
        have h := HR.out
        cases r
        · rfl
        · simp at h
      subst e
      clear HR
      go_enter Tryd.func47, Tryd.ntmps47
      go_wp2_with fail
      (with_reducible refine (H1.out _).mono ?_)
      rintro e w1 ⟨rfl, b1⟩
      obtain ⟨hc, hf, hz⟩ := bcell b1
      have z0 : w.heap.size < w1.heap.size := hz _ (by simp)
      have z1 : g < w1.heap.size := hz _ (by simp <;> omega)
      have lg1 : g < w.heap.size + 1 := by omega
      go_wp2_with fail
      (with_reducible refine (H2.out _).mono ?_)
      rintro e w2 ⟨rfl, b2⟩
      go_wp2
      go_ret
      exact ⟨rfl, bchain (bnew b1) b2⟩
    | true =>
      obtain ⟨n1, s1, e1, ln1, hs1, hm1, ek1⟩ := HG.out.1 rfl
      obtain ⟨n2, s2, e2, ln2, hs2, hm2, ek2⟩ := HG.out.2 rfl
      rw [ek1, ek2] at HR
      obtain ⟨bS, off, hAe, hbS, q1⟩ := kind_cell HL.out ln1 hs1
      obtain ⟨bS', off', hAe', _, q2⟩ := kind_cell HL.out ln2 hs2
      dsimp only at hAe hAe'
      subst hAe
      simp only [Option.some.injEq, Addr.mk.injEq, and_true] at hAe'
      obtain ⟨rfl, rfl⟩ := hAe'
      have hk1 := HL.out.kinds s1 hm1
      have hw := fun w1 (K1 : Kinds w1) => ways_any s1.k hk1.1 hk1.2 w1 K1
      obtain ⟨m, hm⟩ : ∃ m, m = kMany s1.k := ⟨_, rfl⟩
      obtain ⟨k1, hk1'⟩ : ∃ k1, k1 = s1.k := ⟨_, rfl⟩
      obtain ⟨k2, hk2'⟩ : ∃ k2, k2 = s2.k := ⟨_, rfl⟩
      rw [← hm, ← hk1'] at hw
      rw [← hm, ← hk2'] at HR
      rw [← hk1'] at q1
      rw [← hk2'] at q2
      subst e1 e2
      have HW := Lib.hid hw
      clear hw hm hk1' hk2' hk1 ek1 ek2 hs1 hs2 hm1 hm2 HG HL
      go_enter Tryd.func47, Tryd.ntmps47
      go_wp2_with fail
      (with_reducible refine (H1.out _).mono ?_)
      rintro e w1 ⟨rfl, b1⟩
      obtain ⟨hc, hf, hz⟩ := bcell b1
      have z0 : w.heap.size < w1.heap.size := hz _ (by simp)
      have z1 : g < w1.heap.size := hz _ (by simp <;> omega)
      have z2 : bS < w1.heap.size := hz _ (by simp <;> omega)
      have lg1 : g < w.heap.size + 1 := by omega
      have lb1 : bS < w.heap.size + 1 := by omega
      go_wp2_with fail
      (with_reducible refine (H2.out _).mono ?_)
      rintro e w2 ⟨rfl, b2⟩
      obtain ⟨hc2, hf2, hz2⟩ := bcell b2
      have y0 : w.heap.size < w2.heap.size := hz2 _ z0
      have y1 : g < w2.heap.size := hz2 _ z1
      have y2 : bS < w2.heap.size := hz2 _ z2
      have HB2 := Lib.hid (bchain (bnew b1) b2)
      clear b1 b2 hz hz2 H1 H2
      by_cases g1 : n1 = n2
      · have e : r = false := by
          have h := HR.out
          cases r
          · rfl
          · exact absurd (congrArg (Nat.cast : Nat → Int) g1) ((h.1 rfl).2.2.1)
        subst e
        clear HR
        have d1 : (n1 == n2) = true := by simpa using g1
        go_wp2
        go_ret
        exact ⟨rfl, HB2.out⟩
      · have d1 : ((n1 : Int) == (n2 : Int)) = false := by simp; omega
        have d1' : ¬ (n1 : Int) = (n2 : Int) := by omega
        by_cases g2 : pos < 0
        · have e : r = false := by
            have h := HR.out
            cases r
            · rfl
            · have := (h.1 rfl).2.2.2.1; omega
          subst e
          clear HR
          go_wp2
          go_ret
          exact ⟨rfl, HB2.out⟩
        · have d2 : decide (pos < 0) = false := decide_eq_false g2
          by_cases g3 : 1 < pos
          · have d3 : decide ((1 : Int) < pos) = true := decide_eq_true g3
            have e : r = false := by
              have h := HR.out
              cases r
              · rfl
              · have := (h.1 rfl).2.2.2.2.1; omega
            subst e
            clear HR
            go_wp2
            go_ret
            exact ⟨rfl, HB2.out⟩
          · have d3 : decide ((1 : Int) < pos) = false := decide_eq_false g3
            have g3' : pos ≤ 1 := by omega
            by_cases g4 : way < 0
            · have d4 : decide (way < 0) = true := decide_eq_true g4
              have e : r = false := by
                have h := HR.out
                cases r
                · rfl
                · have := (h.1 rfl).2.2.2.2.2.1; omega
              subst e
              clear HR
              go_wp2
              go_ret
              exact ⟨rfl, HB2.out⟩
            · have d4 : decide (way < 0) = false := decide_eq_false g4
              by_cases g5 : m ≤ way
              · have e : r = false := by
                  have h := HR.out
                  cases r
                  · rfl
                  · have := (h.1 rfl).2.2.2.2.2.2.1; omega
                subst e
                clear HR
                have d5 : decide (m ≤ way) = true := decide_eq_true g5
                go_wp2_with fail
                refine wp_region_ext (by kernel_rfl) (by kernel_rfl) fun hx => ?_
                repeat (go_big_quiet_step ((go_at_call 49; exact Calls.ext (HW.out _ (KH.out.below (bchain HB2.out (Ext.below _)))))))
                refine wpQuiet_nil ?_
                intro w5 b5
                go_wp2
                go_ret
                exact ⟨rfl, bchain HB2.out b5⟩
              · have d5 : decide (m ≤ way) = false := decide_eq_false g5
                have e : r = decide (k2 = 2) := by
                  have h := HR.out
                  rw [Bool.eq_iff_iff, decide_eq_true_iff, h]
                  constructor
                  · intro q; exact q.2.2.2.2.2.2.2
                  · intro q; exact ⟨by simp, by simp, fun e => g1 (by omega), by omega, by omega, by omega, by omega, q⟩
                by_cases g6 : k2 = 2
                · obtain rfl : r = true := by rw [e, g6]; rfl
                  subst g6
                  clear HR e
                  go_wp2_with fail
                  refine wp_region_ext (by kernel_rfl) (by kernel_rfl) fun hx => ?_
                  repeat (go_big_quiet_step ((go_at_call 49; exact Calls.ext (HW.out _ (KH.out.below (bchain HB2.out (Ext.below _)))))))
                  refine wpQuiet_nil ?_
                  intro w5 b5
                  go_wp2
                  go_ret
                  exact ⟨rfl, bchain HB2.out b5⟩
                · obtain rfl : r = false := by rw [e]; exact decide_eq_false g6
                  have d6 : (k2 == 2) = false := by simpa using g6
                  have d7 : (k2 != 2) = true := by simpa using g6
                  clear HR e
                  go_wp2_with fail
                  refine wp_region_ext (by kernel_rfl) (by kernel_rfl) fun hx => ?_
                  repeat (go_big_quiet_step ((go_at_call 49; exact Calls.ext (HW.out _ (KH.out.below (bchain HB2.out (Ext.below _)))))))
                  refine wpQuiet_nil ?_
                  intro w5 b5
                  go_wp2
                  go_ret
                  exact ⟨rfl, bchain HB2.out b5⟩
end Go.Proofs.YtpnnbihofoomeaaDoor

/-
  The law of 'for x := range f' in a plain walk, where the body and what assigns its variable lay blocks of their own and turn nothing that was there.
-/
namespace Go.Proofs.YtpnnbihofoomeaaDoor
open Go.RowKit Go.Shelf

abbrev NoB : Nat → Prop := fun _ => False
abbrev NoT : TypeId → Prop := fun _ => False
/-- How the body of a round may be left. -/
def roundPostK {α : Type} (I : List α → Prop) (Ix : Code → List α → Prop) (xs : List α) (W : World) : Exit → Act → World → Prop
  | .normal, _, W' => Below W.heap.size W W' ∧ I xs
  | .ret, _, W' => Below W.heap.size W W' ∧ Ix .ret xs
  | .exit id, _, W' => Below W.heap.size W W' ∧ Ix (.exit id) xs
  | .goto t, _, W' => Below W.heap.size W W' ∧ Ix (.goto t) xs
  | .panic _, _, _ => False
  | .outgrown, _, _ => False
theorem same_of_grown {W W' : World} {row : Option Nat} {B : Nat} (hg : W.grownBy W' row) (hr : ∀ r, row = some r → B ≤ r ∧ ∃ o : Obj, W.heap[r]? = some o ∧ o.isCells = false) : SameCells W W' := by
  intro b o ho hc
  refine (hg.block b (Array.getElem?_eq_some_iff.1 ho).1 (fun e => ?_)).trans ho
  obtain ⟨_, o', h2, h3⟩ := hr b e.symm
  rw [h2] at ho
  cases ho
  rw [hc] at h3
  cases h3
theorem ownFrom_below_and {β : Type} {w : World} (I : β → Prop) : OwnFrom w.heap.size (fun (s : β) W => I s ∧ Below w.heap.size w W) := by
  rintro s W W' row ⟨hi, hw⟩ hg hr
  refine ⟨hi, ⟨hg.os.trans hw.os, hg.tape.trans hw.tape, hg.output.trans hw.output, Nat.le_trans hw.size hg.size, fun b hb => ?_⟩⟩
  have h1 := hw.size
  exact (hg.block b (by omega) (fun e => by have := (hr b e.symm).1; omega)).trans (hw.block b hb)

/-- **'for x := range f' IN A PLAIN WALK, nothing turned.** -/
theorem wp_range_k {P : Program} {α : Type} {g : Operand} {ps : Array Tmp} {assign body : Code} {Q : Exit → Act → World → Prop} {a : Act} {w : World}
    {gf : Nat} {lb : Array Value} (hg : a.eval g = .func (.func gf) #[] lb) (eg : ∀ args w, (callFunc gf args).run P w = .ok (.enter gf args) w)
    {encs : α → Array Value} {S Sp : List α → Prop} {N : Nat}
    (hseq : SeqStopsK Fence.wide 4 P gf lb encs (KeepsE NoB NoT w.heap.size) S Sp N w) (hps : ∀ x, (encs x).size = ps.size)
    (I : List α → Prop) (Ix : Code → List α → Prop) (h0 : I []) (Ax : α → Act → World → Prop) (hAx : ∀ x a' W W', Ax x a' W → SameCells W W' → W.heap.size ≤ W'.heap.size → Ax x a' W')
    (hassign : ∀ (l : Nat) (x : α) (W : World) (K : Act → World → Prop), Below w.heap.size w W → (∀ a' W', Below W.heap.size W W' → Ax x a' W' → K a' W') →
      assign.wpIn (Fence.wide.inRound l) 3 P (Exit.then K (fun _ _ _ => False)) { tmps := (ps.zip (encs x)).foldl (fun t (p, v) => t.setIfInBounds p v) a.tmps, defers := [] } W)
    (hbody : ∀ (l : Nat) (pre : List α) (x : α) (a' : Act) (W : World), Below w.heap.size w W → I pre → Ax x a' W → pre.length < N → body.wpIn (Fence.wide.inRound l) 3 P (roundPostK I Ix (pre ++ [x]) W) a' W)
    (hdone : ∀ (D : Nat) (xs : List α) (W : World), w.heap.size ≤ D → S xs → Below w.heap.size w W → I xs → W.heap[D]? = some (.deferred (some [])) → Q .normal { a with defers := { target := .collected D, args := #[] } :: a.defers } W)
    (hstop : ∀ (D : Nat) (c : Code) (pre : List α) (W : World), w.heap.size ≤ D → Sp pre → Below w.heap.size w W → Ix c pre → W.heap[D]? = some (.deferred (some [])) → c.wp P Q { a with defers := { target := .collected D, args := #[] } :: a.defers } W) :
    (Code.rangeFunc g ps assign body).wp P Q a w := by
  refine (wpIn_wide (n := 5)).1 (wpIn_rangeFunc_ownH (F := Fence.wide) (n := 5) rfl (by decide) hg trivial eg hseq (fun h k => h.trans k) (fun W l o o' _ hl hc _ => keepE_put W l o o' hl hc) (Below.refl _ _) hps
    (fun s W => I s ∧ Below w.heap.size w W) (fun c s W => Ix c s ∧ Below w.heap.size w W) (ownFrom_below_and I) (fun c => ownFrom_below_and (Ix c)) ⟨h0, Below.refl _ _⟩
    Ax (fun x a' _ W W' row hs hgr hr => hAx x a' W W' hs (same_of_grown hgr hr) hgr.size) ?_ ?_ ?_ ?_)
  · rintro l pre x W K ⟨hi, hw⟩ hK
    refine hassign l x W K hw (fun a' W' hb hx => hK a' W' ⟨hb.size, fun k o _ hk _ => (hb.block k (Array.getElem?_eq_some_iff.1 hk).1).trans hk⟩ (.of_below hb) ⟨hi, hw.trans (hb.mono hw.size)⟩ hx)
  · rintro l pre x a' W _ _ ⟨hi, hw⟩ hx hlen
    refine wpIn_mono (hbody l pre x a' W hw hi hx hlen) ?_
    have kf : ∀ W', Below W.heap.size W W' → KeepsFrom w.heap.size W W' := fun W' hb => ⟨hb.size, fun k o _ hk _ => (hb.block k (Array.getElem?_eq_some_iff.1 hk).1).trans hk⟩
    rintro e a' W' hq
    cases e with
    | normal => exact ⟨kf W' hq.1, .of_below hq.1, hq.2, hw.trans (hq.1.mono hw.size)⟩
    | ret => exact ⟨kf W' hq.1, hq.2, hw.trans (hq.1.mono hw.size)⟩
    | exit id => exact ⟨kf W' hq.1, hq.2, hw.trans (hq.1.mono hw.size)⟩
    | goto t => exact ⟨kf W' hq.1, hq.2, hw.trans (hq.1.mono hw.size)⟩
    | panic ch => exact hq.elim
    | outgrown => exact hq.elim
  · rintro D xs W hD hS ⟨hi, hw⟩ hK
    exact hdone D xs W hD hS hw hi hK
  · rintro D c pre W hD hS ⟨hi, hw⟩ hK
    exact wpIn_wide.2 (hstop D c pre W hD hS hw hi hK)

/-- Where the variable lies in a block of its own, laid anew each round: its frame and its cells. -/
def BoxAx {α : Type} (ps : Array Tmp) (encs : α → Array Value) (cs : α → List Value) (sv : Nat) (a : Act) (x : α) (a' : Act) (W : World) : Prop :=
  ∃ bx : Nat, a' = { tmps := ((ps.zip (encs x)).foldl (fun t (p, v) => t.setIfInBounds p v) a.tmps).setIfInBounds sv (.pointer (some ⟨bx, 0, none⟩)), defers := [] } ∧ bx < W.heap.size ∧ ∀ (i : Nat) (v : Value), (cs x)[i]? = some v → W.cell? ⟨bx, i, none⟩ = some v
theorem BoxAx.same {α : Type} {ps : Array Tmp} {encs : α → Array Value} {cs : α → List Value} {sv : Nat} {a a' : Act} {x : α} {W W' : World} (h : BoxAx ps encs cs sv a x a' W) (k : SameCells W W') (hs : W.heap.size ≤ W'.heap.size) : BoxAx ps encs cs sv a x a' W' := by
  obtain ⟨bx, e, h1, h2⟩ := h
  exact ⟨bx, e, Nat.lt_of_lt_of_le h1 hs, fun i v hv => k.cell (h2 i v hv)⟩
/-- **'for x := range f', x boxed.** -/
theorem wp_range_box {P : Program} {α : Type} {g : Operand} {ps : Array Tmp} {assign body : Code} {Q : Exit → Act → World → Prop} {a : Act} {w : World}
    {gf : Nat} {lb : Array Value} (hg : a.eval g = .func (.func gf) #[] lb) (eg : ∀ args w, (callFunc gf args).run P w = .ok (.enter gf args) w)
    {encs : α → Array Value} {S Sp : List α → Prop} {N : Nat} (cs : α → List Value) (sv : Nat)
    (hseq : SeqStopsK Fence.wide 4 P gf lb encs (KeepsE NoB NoT w.heap.size) S Sp N w) (hps : ∀ x, (encs x).size = ps.size)
    (I : List α → Prop) (Ix : Code → List α → Prop) (h0 : I [])
    (hassign : ∀ (l : Nat) (x : α) (W : World) (K : Act → World → Prop), (∀ a' W', Below W.heap.size W W' → BoxAx ps encs cs sv a x a' W' → K a' W') →
      assign.wpIn (Fence.wide.inRound l) 3 P (Exit.then K (fun _ _ _ => False)) { tmps := (ps.zip (encs x)).foldl (fun t (p, v) => t.setIfInBounds p v) a.tmps, defers := [] } W)
    (hbody : ∀ (l : Nat) (pre : List α) (x : α) (bx : Nat) (W : World), Below w.heap.size w W → I pre → bx < W.heap.size → (∀ (i : Nat) (v : Value), (cs x)[i]? = some v → W.cell? ⟨bx, i, none⟩ = some v) → pre.length < N →
      body.wpIn (Fence.wide.inRound l) 3 P (roundPostK I Ix (pre ++ [x]) W) { tmps := ((ps.zip (encs x)).foldl (fun t (p, v) => t.setIfInBounds p v) a.tmps).setIfInBounds sv (.pointer (some ⟨bx, 0, none⟩)), defers := [] } W)
    (hdone : ∀ (D : Nat) (xs : List α) (W : World), w.heap.size ≤ D → S xs → Below w.heap.size w W → I xs → W.heap[D]? = some (.deferred (some [])) → Q .normal { a with defers := { target := .collected D, args := #[] } :: a.defers } W)
    (hstop : ∀ (D : Nat) (c : Code) (pre : List α) (W : World), w.heap.size ≤ D → Sp pre → Below w.heap.size w W → Ix c pre → W.heap[D]? = some (.deferred (some [])) → c.wp P Q { a with defers := { target := .collected D, args := #[] } :: a.defers } W) :
    (Code.rangeFunc g ps assign body).wp P Q a w :=
  wp_range_k hg eg hseq hps I Ix h0 (BoxAx ps encs cs sv a) (fun _ _ _ _ h k hs => h.same k hs) (fun l x W K _ hK => hassign l x W K hK)
    (fun l pre x a' W hb hi hx hlen => by
      obtain ⟨bx, rfl, h1, h2⟩ := hx
      exact hbody l pre x bx W hb hi h1 h2 hlen) hdone hstop
end Go.Proofs.YtpnnbihofoomeaaDoor

/-
  layout.ports: the iterator over all ports that a layout names.
-/
namespace Go.Proofs.YtpnnbihofoomeaaDoor
open Go.RowKit Go.Shelf
attribute [local go_sem] Oper.semAt_some join_at0 join_at1 join_at2 join_at3

/-- Whatever cells there were hold what they held. -/
structure Kept (W W' : World) : Prop where
  size : W.heap.size ≤ W'.heap.size
  cell : ∀ (b o : Nat) (v : Value), W.cell? ⟨b, o, none⟩ = some v → W'.cell? ⟨b, o, none⟩ = some v
theorem Kept.refl (W : World) : Kept W W := ⟨Nat.le_refl _, fun _ _ _ h => h⟩
theorem Kept.trans {X Y Z : World} (h : Kept X Y) (k : Kept Y Z) : Kept X Z := ⟨Nat.le_trans h.size k.size, fun b o v e => k.cell b o v (h.cell b o v e)⟩
theorem Kept.of_below {W W' : World} (h : Below W.heap.size W W') : Kept W W' :=
  ⟨h.size, fun b o _ e => (h.cell (p := ⟨b, o, none⟩) (World.block_lt_of_cell? _ _ e)).trans e⟩
theorem Kept.of_keeps {n : Nat} {W W' : World} (h : KeepsE NoB NoT n W W') : Kept W W' := by
  refine ⟨h.size, fun b o v e => ?_⟩
  obtain ⟨c, t, r, hh⟩ := isCells_of_cell e
  have h2 := h.same b _ hh rfl (fun k => k) (by rintro ⟨_, c', e', r', _, k⟩; exact k)
  exact (World.cell?_of_block (w := W) (a := ⟨b, o, none⟩) (h2.trans hh.symm)).trans e
theorem Kept.of_writes {n : Nat} {W W' : World} (h : WritesE NoB NoT n W W') : Kept W W' := .of_keeps h.keeps
theorem Kept.of_same {W W' : World} (h : SameCells W W') (hs : W.heap.size ≤ W'.heap.size) : Kept W W' := ⟨hs, fun _ _ _ e => h.cell e⟩
theorem RowAt'.kept {α : Type} {W W' : World} {k : Nat} {enc : α → List Value} {b off : Nat} {xs : List α} (h : RowAt' W k enc b off xs) (hb : Kept W W') : RowAt' W' k enc b off xs :=
  ⟨Nat.lt_of_lt_of_le h.1 hb.size, fun j x hx i v hv => hb.cell _ _ _ (h.2 j x hx i v hv)⟩
theorem At.kept {α : Type} {W W' : World} {k : Nat} {enc : α → List Value} {A : Option Addr} {xs : List α} (h : At W k enc A xs) (hb : Kept W W') : At W' k enc A xs := by
  rcases h with h | ⟨b, off, e, h⟩
  · exact .inl h
  · exact .inr ⟨b, off, e, h.kept hb⟩
theorem Sl.kept {α : Type} {W W' : World} {k : Nat} {enc : α → List Value} {v : Value} {xs : List α} (h : Sl W k enc v xs) (hb : Kept W W') : Sl W' k enc v xs := by
  obtain ⟨A, cap, e, h1, h2, h3⟩ := h
  exact ⟨A, cap, e, h1, h2, h3.kept hb⟩
theorem ExAt.kept {W W' : World} {A : Option Addr} {xs : List Ext'} (h : ExAt W A xs) (hb : Kept W W') : ExAt W' A xs := by
  obtain ⟨es, e, h1, h2⟩ := h
  exact ⟨es, e, h1.kept hb, fun y hy => (h2 y hy).kept hb⟩
theorem LayAt.kept {W W' : World} {p : Where} {L : Lay} (h : LayAt W p L) (hb : Kept W W') : LayAt W' p L :=
  ⟨h.secs.kept hb, h.sigs.kept hb, h.exits.kept hb, h.flanks.kept hb, h.l0, h.l1, h.l2, h.l3, h.kinds⟩
theorem Box.kept {W W' : World} {g : Nat} {L : Lay} {p : Where} (h : Box W g L p) (hb : Kept W W') : Box W' g L p := ⟨Nat.lt_of_lt_of_le h.1 hb.size, fun i v hv => hb.cell _ _ _ (h.2 i v hv)⟩
theorem Kinds.kept {W W' : World} (K : Kinds W) (h : Kept W W') : Kinds W' := ⟨fun o v e => h.cell _ _ _ (K.pnone o v e), fun o v e => h.cell _ _ _ (K.pkind o v e)⟩

/-- The ports that are joined, of the first i ports of a section; of the first n sections. -/
def jn (c : Sec) : Nat → List Prt
  | 0 => []
  | i + 1 => jn c i ++ (if 0 ≤ c.S i then [⟨c.S i, c.P i⟩] else [])
def sj (xs : List Sec) : Nat → List Prt
  | 0 => []
  | n + 1 => sj xs n ++ jn (xs.getD n default) 4
def exP (x : Ext') : Prt := ⟨x.s, x.p⟩
def portsL (L : Lay) : List Prt := sj L.secs L.secs.length ++ (L.sigs ++ L.exits.map exP)
theorem jn_pre (c : Sec) {i j : Nat} (h : i ≤ j) : jn c i <+: jn c j := by
  induction h with
  | refl => exact List.prefix_rfl
  | step _ ih => exact ih.trans (List.prefix_append _ _)
theorem sj_pre (xs : List Sec) {i j : Nat} (h : i ≤ j) : sj xs i <+: sj xs j := by
  induction h with
  | refl => exact List.prefix_rfl
  | step _ ih => exact ih.trans (List.prefix_append _ _)
theorem pre_secs {L : Lay} {n i : Nat} {c : Sec} (hn : n < L.secs.length) (hc : L.secs[n]? = some c) (hi : i ≤ 4) : sj L.secs n ++ jn c i <+: portsL L := by
  have h1 : sj L.secs n ++ jn c i <+: sj L.secs (n + 1) := by
    simp only [sj]
    have : L.secs.getD n default = c := by rw [List.getD_eq_getElem?_getD, hc]; rfl
    rw [this]
    exact (List.prefix_append_right_inj _).2 (jn_pre c hi)
  exact (h1.trans (sj_pre L.secs (by omega))).trans (List.prefix_append _ _)
theorem pre_sigs {L : Lay} {n : Nat} : sj L.secs L.secs.length ++ L.sigs.take n <+: portsL L := by
  unfold portsL
  exact (List.prefix_append_right_inj _).2 ((List.take_prefix _ _).trans (List.prefix_append _ _))
theorem pre_exits {L : Lay} {n : Nat} : sj L.secs L.secs.length ++ (L.sigs ++ (L.exits.take n).map exP) <+: portsL L := by
  unfold portsL
  exact (List.prefix_append_right_inj _).2 ((List.prefix_append_right_inj _).2 (by rw [List.map_take]; exact List.take_prefix _ _))
theorem take_more {α : Type} {xs : List α} {n : Nat} {x : α} (h : xs[n]? = some x) : xs.take (n + 1) = xs.take n ++ [x] := by
  obtain ⟨hn, e⟩ := List.getElem?_eq_some_iff.1 h
  rw [List.take_succ_eq_append_getElem hn, e]
theorem lt_of_pre {α : Type} {p q : List α} {x : α} (h : p ++ [x] <+: q) : p.length < q.length := by
  have := h.length_le
  simp at this
  omega

theorem ports_fn (L : Lay) (p : Where) (w : World) :
    Calls Tryd.prog 54 #[L.val p] w fun e w' => e = .returned (.func (.func 86) #[] #[.pointer (some ⟨w.heap.size, 0, none⟩)]) ∧ w' = w.alloc (.cells (L.cells p).toArray 29) := by
  unfold Lay.val Lay.cells
  go_enter Tryd.func54, Tryd.ntmps54
  go_wp2
  go_ret
  exact ⟨rfl, rfl⟩

set_option maxRecDepth 100000 in
set_option maxHeartbeats 16000000 in
theorem ports1_in (l g n₀ : Nat) (L : Lay) (p : Where) (J Jx : List Prt → World → Prop) (W : World) (hJ : AbidesFrom W.heap.size J)
    (hY : ∀ pre x W1, J pre W1 → pre.length < (portsL L).length → YieldAt Fence.wide 3 Tryd.prog l #[.agg #[.int .i64 (x : Prt).s, .int .i64 x.p]] W1 fun e W' =>
      (e = .returned (.bool true) ∧ J (pre ++ [x]) W' ∧ KeepsE NoB NoT n₀ W1 W') ∨ (e = .returned (.bool false) ∧ Jx (pre ++ [x]) W'))
    (hL : LayAt W p L) (hB : Box W g L p) (hJ0 : J [] W) :
    CallsIn Fence.wide 4 Tryd.prog 86 #[.func (.yield l) #[] #[], .pointer (some ⟨g, 0, none⟩)] W fun e W' => (∃ v, e = .returned v) ∧
      ((∃ ys, ys = portsL L ∧ J ys W') ∨ (∃ pre, (pre <+: portsL L) ∧ Jx pre W')) := by
  have hJg : ∀ s (X Y : World), W.heap.size ≤ X.heap.size → J s X → Below X.heap.size X Y → J s Y := fun s X Y _ hx hb => hJ s X Y none hx ⟨hb.os, hb.tape, hb.output, hb.size, fun k' hk' _ => hb.block k' hk'⟩ (fun r e => by cases e)
  have m0 : L.secs.length ≤ 9223372036854775807 := Nat.le_trans hL.l0.1 hL.l0.2
  have m1 : L.sigs.length ≤ 9223372036854775807 := Nat.le_trans hL.l1.1 hL.l1.2
  have m2 : L.exits.length ≤ 9223372036854775807 := Nat.le_trans hL.l2.1 hL.l2.2
  obtain ⟨a0, a1, a2, a3, p0, p1, p2, p3⟩ := p
  have HL := Lib.hid hL
  have HB := Lib.hid hB
  have HJ := Lib.hid hJg
  have HY := Lib.hid hY
  have c0 := hB.2 0 _ rfl
  have lg := hB.1
  clear hL hB hJg hJ hY
  refine callsIn_of_wp Tryd.func86 rfl trivial ?_ rfl
  simp only [Tryd.ntmps86, List.size_toArray, List.length_cons, List.length_nil, Nat.reduceAdd, Nat.reduceSub, Array.replicate_succ, Array.replicate_zero, List.push_toArray, List.append_toArray, List.nil_append, List.cons_append]
  gi_wp2_with fail
  gi_loopw [14] (fun c wr => ∃ n : Nat, n ≤ L.secs.length ∧ c = .int .i64 n ∧ J (sj L.secs n) wr ∧ Kept W wr) (fun c _ => L.secs.length - (intOf c).toNat)
  case atStart => exact ⟨0, Nat.zero_le _, rfl, hJ0, Kept.refl _⟩
  case round =>
    obtain ⟨n, hn, rfl, hJn, hK⟩ := hrel
    obtain ⟨wo, rfl⟩ : ∃ wo : World, wo = wr := ⟨_, rfl⟩
    have HJn := Lib.hid hJn
    have HK := Lib.hid hK
    clear hJn hK
    by_cases hlt : n < L.secs.length
    · obtain ⟨x, hx⟩ : ∃ x, L.secs[n]? = some x := ⟨L.secs[n], List.getElem?_eq_getElem hlt⟩
      obtain ⟨b, off, hAe, hrow⟩ := (HL.out.kept HK.out).secs.get hlt
      dsimp only at hAe
      subst hAe
      obtain ⟨k0, k1, k2, k3, k4, k5, k6, k7, k8, k9, k10⟩ := sec_cells hrow hx
      have lb := hrow.1
      have hpre := fun i (hi : i ≤ 4) => pre_secs hlt hx hi
      have HP := Lib.hid hpre
      have hdef : L.secs.getD n default = x := by rw [List.getD_eq_getElem?_getD, hx]; rfl
      have HD := Lib.hid hdef
      obtain ⟨k, s0, q0, s1, q1, s2, q2, s3, q3, cl0, cl1⟩ := x
      dsimp only at k0 k1 k2 k3 k4 k5 k6 k7 k8 k9 k10
      clear hrow hx hpre hdef
      gi_wp2_with fail
      obtain ⟨Wm, hWm⟩ : ∃ Wm, Wm = wo.alloc (.cells #[.int .u8 k, .int .i64 s0, .int .i64 q0, .int .i64 s1, .int .i64 q1, .int .i64 s2, .int .i64 q2, .int .i64 s3, .int .i64 q3, .int .i64 cl0, .int .i64 cl1] 69) := ⟨_, rfl⟩
      have hJm : Hid (J (sj L.secs n ++ jn ⟨k, s0, q0, s1, q1, s2, q2, s3, q3, cl0, cl1⟩ 0) Wm) := Lib.hid (by
        rw [hWm]
        simp only [jn, List.append_nil]
        exact HJ.out _ _ _ HK.out.size HJn.out bself)
      have hKm : Hid (Kept W Wm) := Lib.hid (by rw [hWm]; exact HK.out.trans (.of_below bself))
      rw [← hWm]
      clear hWm k0 k1 k2 k3 k4 k5 k6 k7 k8 k9 k10 lb
      gi_loopw [20] (fun c wi => ∃ i : Nat, i ≤ 4 ∧ c = .int .i64 i ∧ Hid (J (sj L.secs n ++ jn ⟨k, s0, q0, s1, q1, s2, q2, s3, q3, cl0, cl1⟩ i) wi) ∧ Hid (Kept W wi)) (fun c _ => 4 - (intOf c).toNat)
      case atStart => exact ⟨0, by omega, rfl, hJm, hKm⟩
      case round =>
        obtain ⟨i, hi, rfl, HJi, HKi⟩ := hrel
        clear hJm hKm
        have cs : i = 0 ∨ i = 1 ∨ i = 2 ∨ i = 3 ∨ i = 4 := by omega
        rcases cs with rfl | rfl | rfl | rfl | rfl
        · by_cases hs : 0 ≤ s0
          · have hd : decide (0 ≤ s0) = true := decide_eq_true hs
            obtain ⟨Wy, hWy⟩ : ∃ Wy, Wy = wr.alloc (.cells #[.int .i64 s0, .int .i64 q0] 48) := ⟨_, rfl⟩
            have By : Below wr.heap.size wr Wy := by rw [hWy]; exact bself
            have Jy := HJ.out _ _ Wy HKi.out.size HJi.out By
            have e : jn ⟨k, s0, q0, s1, q1, s2, q2, s3, q3, cl0, cl1⟩ 1 = jn ⟨k, s0, q0, s1, q1, s2, q2, s3, q3, cl0, cl1⟩ 0 ++ [⟨s0, q0⟩] := by
              rw [jn]
              exact congrArg _ (if_pos hs)
            have hp := HP.out 1 (by omega)
            rw [e, ← List.append_assoc] at hp
            obtain ⟨fn, tmps, assign, body, hyy, hR⟩ := HY.out _ ⟨s0, q0⟩ Wy Jy (lt_of_pre hp)
            have HE := Lib.hid (⟨e, hp, By⟩ : _ ∧ _ ∧ _)
            subst hWy
            clear e hp Jy By
            gi_wp2
            refine hR.mono ?_
            rintro e W3 (⟨rfl, hJ3, hk3⟩ | ⟨rfl, hJx3⟩)
            · have H3 := Lib.hid (⟨hJ3, (HKi.out.trans (.of_below HE.out.2.2)).trans (.of_keeps hk3)⟩ : _ ∧ _)
              clear hJ3 hk3
              gi_wp2
              go_roundw
              case rel => exact ⟨1, by omega, rfl, Lib.hid (by rw [HE.out.1, ← List.append_assoc]; exact H3.out.1), Lib.hid H3.out.2⟩
              case measure => simp [intOf]
            · gi_wp2
              refine bodyPost_ret (results_none rfl _ _ _) rfl ?_
              exact ⟨⟨_, rfl⟩, .inr ⟨_, HE.out.2.1, hJx3⟩⟩
          · have hd : decide (0 ≤ s0) = false := decide_eq_false hs
            have e : jn ⟨k, s0, q0, s1, q1, s2, q2, s3, q3, cl0, cl1⟩ 1 = jn ⟨k, s0, q0, s1, q1, s2, q2, s3, q3, cl0, cl1⟩ 0 := by
              rw [jn]
              exact (congrArg _ (if_neg hs)).trans (List.append_nil _)
            have HE := Lib.hid e
            clear e
            gi_wp2
            refine ⟨fun _ h => (by cases h), ?_⟩
            gi_wp2
            go_roundw
            case rel => exact ⟨1, by omega, rfl, Lib.hid (by rw [HE.out]; exact HJ.out _ _ _ HKi.out.size HJi.out bself), Lib.hid (HKi.out.trans (.of_below bself))⟩
            case measure => simp [intOf]
        · by_cases hs : 0 ≤ s1
          · have hd : decide (0 ≤ s1) = true := decide_eq_true hs
            obtain ⟨Wy, hWy⟩ : ∃ Wy, Wy = wr.alloc (.cells #[.int .i64 s1, .int .i64 q1] 48) := ⟨_, rfl⟩
            have By : Below wr.heap.size wr Wy := by rw [hWy]; exact bself
            have Jy := HJ.out _ _ Wy HKi.out.size HJi.out By
            have e : jn ⟨k, s0, q0, s1, q1, s2, q2, s3, q3, cl0, cl1⟩ 2 = jn ⟨k, s0, q0, s1, q1, s2, q2, s3, q3, cl0, cl1⟩ 1 ++ [⟨s1, q1⟩] := by
              rw [jn]
              exact congrArg _ (if_pos hs)
            have hp := HP.out 2 (by omega)
            rw [e, ← List.append_assoc] at hp
            obtain ⟨fn, tmps, assign, body, hyy, hR⟩ := HY.out _ ⟨s1, q1⟩ Wy Jy (lt_of_pre hp)
            have HE := Lib.hid (⟨e, hp, By⟩ : _ ∧ _ ∧ _)
            subst hWy
            clear e hp Jy By
            gi_wp2
            refine hR.mono ?_
            rintro e W3 (⟨rfl, hJ3, hk3⟩ | ⟨rfl, hJx3⟩)
            · have H3 := Lib.hid (⟨hJ3, (HKi.out.trans (.of_below HE.out.2.2)).trans (.of_keeps hk3)⟩ : _ ∧ _)
              clear hJ3 hk3
              gi_wp2
              go_roundw
              case rel => exact ⟨2, by omega, rfl, Lib.hid (by rw [HE.out.1, ← List.append_assoc]; exact H3.out.1), Lib.hid H3.out.2⟩
              case measure => simp [intOf]
            · gi_wp2
              refine bodyPost_ret (results_none rfl _ _ _) rfl ?_
              exact ⟨⟨_, rfl⟩, .inr ⟨_, HE.out.2.1, hJx3⟩⟩
          · have hd : decide (0 ≤ s1) = false := decide_eq_false hs
            have e : jn ⟨k, s0, q0, s1, q1, s2, q2, s3, q3, cl0, cl1⟩ 2 = jn ⟨k, s0, q0, s1, q1, s2, q2, s3, q3, cl0, cl1⟩ 1 := by
              rw [jn]
              exact (congrArg _ (if_neg hs)).trans (List.append_nil _)
            have HE := Lib.hid e
            clear e
            gi_wp2
            refine ⟨fun _ h => (by cases h), ?_⟩
            gi_wp2
            go_roundw
            case rel => exact ⟨2, by omega, rfl, Lib.hid (by rw [HE.out]; exact HJ.out _ _ _ HKi.out.size HJi.out bself), Lib.hid (HKi.out.trans (.of_below bself))⟩
            case measure => simp [intOf]
        · by_cases hs : 0 ≤ s2
          · have hd : decide (0 ≤ s2) = true := decide_eq_true hs
            obtain ⟨Wy, hWy⟩ : ∃ Wy, Wy = wr.alloc (.cells #[.int .i64 s2, .int .i64 q2] 48) := ⟨_, rfl⟩
            have By : Below wr.heap.size wr Wy := by rw [hWy]; exact bself
            have Jy := HJ.out _ _ Wy HKi.out.size HJi.out By
            have e : jn ⟨k, s0, q0, s1, q1, s2, q2, s3, q3, cl0, cl1⟩ 3 = jn ⟨k, s0, q0, s1, q1, s2, q2, s3, q3, cl0, cl1⟩ 2 ++ [⟨s2, q2⟩] := by
              rw [jn]
              exact congrArg _ (if_pos hs)
            have hp := HP.out 3 (by omega)
            rw [e, ← List.append_assoc] at hp
            obtain ⟨fn, tmps, assign, body, hyy, hR⟩ := HY.out _ ⟨s2, q2⟩ Wy Jy (lt_of_pre hp)
            have HE := Lib.hid (⟨e, hp, By⟩ : _ ∧ _ ∧ _)
            subst hWy
            clear e hp Jy By
            gi_wp2
            refine hR.mono ?_
            rintro e W3 (⟨rfl, hJ3, hk3⟩ | ⟨rfl, hJx3⟩)
            · have H3 := Lib.hid (⟨hJ3, (HKi.out.trans (.of_below HE.out.2.2)).trans (.of_keeps hk3)⟩ : _ ∧ _)
              clear hJ3 hk3
              gi_wp2
              go_roundw
              case rel => exact ⟨3, by omega, rfl, Lib.hid (by rw [HE.out.1, ← List.append_assoc]; exact H3.out.1), Lib.hid H3.out.2⟩
              case measure => simp [intOf]
            · gi_wp2
              refine bodyPost_ret (results_none rfl _ _ _) rfl ?_
              exact ⟨⟨_, rfl⟩, .inr ⟨_, HE.out.2.1, hJx3⟩⟩
          · have hd : decide (0 ≤ s2) = false := decide_eq_false hs
            have e : jn ⟨k, s0, q0, s1, q1, s2, q2, s3, q3, cl0, cl1⟩ 3 = jn ⟨k, s0, q0, s1, q1, s2, q2, s3, q3, cl0, cl1⟩ 2 := by
              rw [jn]
              exact (congrArg _ (if_neg hs)).trans (List.append_nil _)
            have HE := Lib.hid e
            clear e
            gi_wp2
            refine ⟨fun _ h => (by cases h), ?_⟩
            gi_wp2
            go_roundw
            case rel => exact ⟨3, by omega, rfl, Lib.hid (by rw [HE.out]; exact HJ.out _ _ _ HKi.out.size HJi.out bself), Lib.hid (HKi.out.trans (.of_below bself))⟩
            case measure => simp [intOf]
        · by_cases hs : 0 ≤ s3
          · have hd : decide (0 ≤ s3) = true := decide_eq_true hs
            obtain ⟨Wy, hWy⟩ : ∃ Wy, Wy = wr.alloc (.cells #[.int .i64 s3, .int .i64 q3] 48) := ⟨_, rfl⟩
            have By : Below wr.heap.size wr Wy := by rw [hWy]; exact bself
            have Jy := HJ.out _ _ Wy HKi.out.size HJi.out By
            have e : jn ⟨k, s0, q0, s1, q1, s2, q2, s3, q3, cl0, cl1⟩ 4 = jn ⟨k, s0, q0, s1, q1, s2, q2, s3, q3, cl0, cl1⟩ 3 ++ [⟨s3, q3⟩] := by
              rw [jn]
              exact congrArg _ (if_pos hs)
            have hp := HP.out 4 (by omega)
            rw [e, ← List.append_assoc] at hp
            obtain ⟨fn, tmps, assign, body, hyy, hR⟩ := HY.out _ ⟨s3, q3⟩ Wy Jy (lt_of_pre hp)
            have HE := Lib.hid (⟨e, hp, By⟩ : _ ∧ _ ∧ _)
            subst hWy
            clear e hp Jy By
            gi_wp2
            refine hR.mono ?_
            rintro e W3 (⟨rfl, hJ3, hk3⟩ | ⟨rfl, hJx3⟩)
            · have H3 := Lib.hid (⟨hJ3, (HKi.out.trans (.of_below HE.out.2.2)).trans (.of_keeps hk3)⟩ : _ ∧ _)
              clear hJ3 hk3
              gi_wp2
              go_roundw
              case rel => exact ⟨4, by omega, rfl, Lib.hid (by rw [HE.out.1, ← List.append_assoc]; exact H3.out.1), Lib.hid H3.out.2⟩
              case measure => simp [intOf]
            · gi_wp2
              refine bodyPost_ret (results_none rfl _ _ _) rfl ?_
              exact ⟨⟨_, rfl⟩, .inr ⟨_, HE.out.2.1, hJx3⟩⟩
          · have hd : decide (0 ≤ s3) = false := decide_eq_false hs
            have e : jn ⟨k, s0, q0, s1, q1, s2, q2, s3, q3, cl0, cl1⟩ 4 = jn ⟨k, s0, q0, s1, q1, s2, q2, s3, q3, cl0, cl1⟩ 3 := by
              rw [jn]
              exact (congrArg _ (if_neg hs)).trans (List.append_nil _)
            have HE := Lib.hid e
            clear e
            gi_wp2
            refine ⟨fun _ h => (by cases h), ?_⟩
            gi_wp2
            go_roundw
            case rel => exact ⟨4, by omega, rfl, Lib.hid (by rw [HE.out]; exact HJ.out _ _ _ HKi.out.size HJi.out bself), Lib.hid (HKi.out.trans (.of_below bself))⟩
            case measure => simp [intOf]
        · gi_wp2
          go_roundw
          case rel => exact ⟨n + 1, by omega, by go_num, by simp only [sj]; rw [HD.out]; exact HJi.out, HKi.out⟩
          case measure => simp [intOf]; omega
    · obtain rfl : n = L.secs.length := by omega
      have hB := HB.out.kept HK.out
      have lg' := hB.1
      have c1 := hB.2 1 _ rfl
      have c2 := hB.2 2 _ rfl
      clear hB
      gi_wp2_with fail
      gi_loopw [37] (fun c wr => ∃ n : Nat, n ≤ L.sigs.length ∧ c = .int .i64 n ∧ J (sj L.secs L.secs.length ++ L.sigs.take n) wr ∧ Kept W wr) (fun c _ => L.sigs.length - (intOf c).toNat)
      case atStart => exact ⟨0, Nat.zero_le _, rfl, by simpa using HJn.out, HK.out⟩
      case round =>
        obtain ⟨n, hn, rfl, hJn, hK⟩ := hrel
        clear c1 c2 HJn HK
        have HJn := Lib.hid hJn
        have HK := Lib.hid hK
        clear hJn hK
        by_cases hlt : n < L.sigs.length
        · obtain ⟨x, hx⟩ : ∃ x, L.sigs[n]? = some x := ⟨L.sigs[n], List.getElem?_eq_getElem hlt⟩
          obtain ⟨b, off, hAe, hrow⟩ := (HL.out.kept HK.out).sigs.get hlt
          dsimp only at hAe
          subst hAe
          have k0 : wr.cell? ⟨b, off + n * 2, none⟩ = some (.int .i64 x.s) := hrow.2 n x hx 0 _ rfl
          have k1 : wr.cell? ⟨b, off + n * 2 + 1, none⟩ = some (.int .i64 x.p) := hrow.2 n x hx 1 _ rfl
          have lb := hrow.1
          have e := take_more hx
          have hp := pre_sigs (L := L) (n := n + 1)
          rw [e, ← List.append_assoc] at hp
          obtain ⟨s, q⟩ := x
          dsimp only at k0 k1
          obtain ⟨Wy, hWy⟩ : ∃ Wy, Wy = wr.alloc (.cells #[.int .i64 s, .int .i64 q] 71) := ⟨_, rfl⟩
          have By : Below wr.heap.size wr Wy := by rw [hWy]; exact bself
          have Jy := HJ.out _ _ Wy HK.out.size HJn.out By
          obtain ⟨fn, tmps, assign, body, hyy, hR⟩ := HY.out _ ⟨s, q⟩ Wy Jy (lt_of_pre hp)
          have HE := Lib.hid (⟨e, hp, By⟩ : _ ∧ _ ∧ _)
          subst hWy
          clear e hp Jy By hrow hx
          gi_wp2
          refine hR.mono ?_
          rintro e W3 (⟨rfl, hJ3, hk3⟩ | ⟨rfl, hJx3⟩)
          · have H3 := Lib.hid (⟨hJ3, (HK.out.trans (.of_below HE.out.2.2)).trans (.of_keeps hk3)⟩ : _ ∧ _)
            clear hJ3 hk3
            gi_wp2
            go_roundw
            case rel => exact ⟨n + 1, by omega, by go_num, by rw [HE.out.1, ← List.append_assoc]; exact H3.out.1, H3.out.2⟩
            case measure => simp [intOf]; omega
          · gi_wp2
            refine bodyPost_ret (results_none rfl _ _ _) rfl ?_
            exact ⟨⟨_, rfl⟩, .inr ⟨_, HE.out.2.1, hJx3⟩⟩
        · obtain rfl : n = L.sigs.length := by omega
          have hB := HB.out.kept HK.out
          have lg'' := hB.1
          have c2 := hB.2 2 _ rfl
          clear hB
          gi_wp2_with fail
          gi_loopw [50] (fun c wr => ∃ n : Nat, n ≤ L.exits.length ∧ c = .int .i64 n ∧ J (sj L.secs L.secs.length ++ (L.sigs ++ (L.exits.take n).map exP)) wr ∧ Kept W wr) (fun c _ => L.exits.length - (intOf c).toNat)
          case atStart => exact ⟨0, Nat.zero_le _, rfl, by simpa using HJn.out, HK.out⟩
          case round =>
            obtain ⟨n, hn, rfl, hJn, hK⟩ := hrel
            clear c2 HJn HK
            have HJn := Lib.hid hJn
            have HK := Lib.hid hK
            clear hJn hK
            by_cases hlt : n < L.exits.length
            · obtain ⟨es, hes, hAt, hov⟩ := (HL.out.kept HK.out).exits
              have hlen : es.length = L.exits.length := by rw [← hes, List.length_map]
              obtain ⟨b, off, hAe, hrow⟩ := hAt.get (j := n) (by omega)
              dsimp only at hAe
              subst hAe
              obtain ⟨y, hy⟩ : ∃ y, es[n]? = some y := ⟨es[n]'(by omega), List.getElem?_eq_getElem (by omega)⟩
              have hx : L.exits[n]? = some y.1 := by rw [← hes, List.getElem?_map, hy]; rfl
              have k0 : wr.cell? ⟨b, off + n * 3, none⟩ = some (.int .i64 y.1.s) := hrow.2 n y hy 0 _ rfl
              have k1 : wr.cell? ⟨b, off + n * 3 + 1, none⟩ = some (.int .i64 y.1.p) := hrow.2 n y hy 1 _ rfl
              have k2 : wr.cell? ⟨b, off + n * 3 + 2, none⟩ = some y.2 := hrow.2 n y hy 2 _ rfl
              obtain ⟨vA, vc, ve, _, _, _⟩ := hov y (List.mem_of_getElem? hy)
              obtain ⟨m, hm⟩ : ∃ m, m = y.1.over.length := ⟨_, rfl⟩
              rw [ve, ← hm] at k2
              have lb := hrow.1
              have e := take_more hx
              have hp := pre_exits (L := L) (n := n + 1)
              have em : (L.exits.take (n + 1)).map exP = (L.exits.take n).map exP ++ [⟨y.1.s, y.1.p⟩] := by rw [e, List.map_append]; rfl
              rw [em, ← List.append_assoc, ← List.append_assoc] at hp
              obtain ⟨s, hs⟩ : ∃ s, s = y.1.s := ⟨_, rfl⟩
              obtain ⟨q, hq⟩ : ∃ q, q = y.1.p := ⟨_, rfl⟩
              rw [← hs] at k0
              rw [← hq] at k1
              rw [← hs, ← hq] at hp em
              obtain ⟨Wy, hWy⟩ : ∃ Wy, Wy = wr.alloc (.cells #[.int .i64 s, .int .i64 q, .slice vA m vc] 51) := ⟨_, rfl⟩
              have By : Below wr.heap.size wr Wy := by rw [hWy]; exact bself
              have Jy := HJ.out _ _ Wy HK.out.size HJn.out By
              rw [← List.append_assoc] at Jy
              obtain ⟨fn, tmps, assign, body, hyy, hR⟩ := HY.out _ ⟨s, q⟩ Wy Jy (lt_of_pre hp)
              have HE := Lib.hid (⟨em, hp, By⟩ : _ ∧ _ ∧ _)
              subst hWy
              clear e em hp Jy By hrow hx hy hes hAt hov hlen ve hm hs hq
              gi_wp2
              refine hR.mono ?_
              rintro e W3 (⟨rfl, hJ3, hk3⟩ | ⟨rfl, hJx3⟩)
              · have H3 := Lib.hid (⟨hJ3, (HK.out.trans (.of_below HE.out.2.2)).trans (.of_keeps hk3)⟩ : _ ∧ _)
                clear hJ3 hk3
                gi_wp2
                go_roundw
                case rel => exact ⟨n + 1, by omega, by go_num, by rw [HE.out.1, ← List.append_assoc, ← List.append_assoc]; exact H3.out.1, H3.out.2⟩
                case measure => simp [intOf]; omega
              · gi_wp2
                refine bodyPost_ret (results_none rfl _ _ _) rfl ?_
                exact ⟨⟨_, rfl⟩, .inr ⟨_, HE.out.2.1, hJx3⟩⟩
            · obtain rfl : n = L.exits.length := by omega
              gi_wp2
              go_end0
              exact ⟨⟨_, rfl⟩, .inl ⟨_, rfl, by simpa [portsL] using HJn.out⟩⟩
end Go.Proofs.YtpnnbihofoomeaaDoor

/-
  slices.Min, slices.Max at []int.
-/
namespace Go.Proofs.YtpnnbihofoomeaaDoor
open Go.RowKit Go.Shelf

def MinOf (zs : List Int) (w : World) (e : Ending) (w' : World) : Prop := ∃ m, e = .returned (.int .i64 m) ∧ m ∈ zs ∧ (∀ z ∈ zs, m ≤ z) ∧ w = w'
def MaxOf (zs : List Int) (w : World) (e : Ending) (w' : World) : Prop := ∃ m, e = .returned (.int .i64 m) ∧ m ∈ zs ∧ (∀ z ∈ zs, z ≤ m) ∧ w = w'
theorem more_min {zs : List Int} {n : Nat} {m z x : Int} (hz : zs[n]? = some z) (h1 : m ∈ zs) (h2 : ∀ (j : Nat) y, j < n → zs[j]? = some y → m ≤ y) (hx : x = m ∨ x = z) (hy : x ≤ m ∧ x ≤ z) : x ∈ zs ∧ ∀ (j : Nat) y, j < n + 1 → zs[j]? = some y → x ≤ y := by
  refine ⟨?_, fun j y hj hjy => ?_⟩
  · rcases hx with rfl | rfl
    · exact h1
    · exact List.mem_of_getElem? hz
  · by_cases e : j = n
    · subst e
      rw [hz] at hjy
      cases hjy
      omega
    · have := h2 j y (by omega) hjy
      omega
theorem more_max {zs : List Int} {n : Nat} {m z x : Int} (hz : zs[n]? = some z) (h1 : m ∈ zs) (h2 : ∀ (j : Nat) y, j < n → zs[j]? = some y → y ≤ m) (hx : x = m ∨ x = z) (hy : m ≤ x ∧ z ≤ x) : x ∈ zs ∧ ∀ (j : Nat) y, j < n + 1 → zs[j]? = some y → y ≤ x := by
  refine ⟨?_, fun j y hj hjy => ?_⟩
  · rcases hx with rfl | rfl
    · exact h1
    · exact List.mem_of_getElem? hz
  · by_cases e : j = n
    · subst e
      rw [hz] at hjy
      cases hjy
      omega
    · have := h2 j y (by omega) hjy
      omega

set_option maxRecDepth 100000 in
set_option maxHeartbeats 2000000 in
theorem min_any (b cap : Nat) (zs : List Int) (w : World) (hc : ∀ (j : Nat) (z : Int), zs[j]? = some z → w.cell? ⟨b, j, none⟩ = some (.int .i64 z)) (h1 : 0 < zs.length) (hm : zs.length ≤ 9223372036854775807) :
    Calls Tryd.prog 50 #[.slice (some ⟨b, 0, none⟩) zs.length cap] w (MinOf zs w) := by
  obtain ⟨len, hlen⟩ : ∃ len, len = zs.length := ⟨_, rfl⟩
  rw [← hlen] at hm h1 ⊢
  have HC := Lib.hid hc
  have HL := Lib.hid hlen
  obtain ⟨z0, hz0⟩ : ∃ z, zs[0]? = some z := ⟨zs[0]'(by omega), List.getElem?_eq_getElem _⟩
  have c0 := hc 0 z0 hz0
  have HZ := Lib.hid hz0
  clear hc hlen hz0
  have hd : decide ((len : Int) < 1) = false := decide_eq_false (by omega)
  have hd1 : ¬ (len : Int) < 1 := by omega
  have hd2 : 0 < len := h1
  go_enter Tryd.func50, Tryd.ntmps50
  go_wp2_with fail
  go_loop [3, 4] (fun s3 s4 => ∃ (n : Nat) (m : Int), 1 ≤ n ∧ n ≤ len ∧ s4 = .int .i64 n ∧ s3 = .int .i64 m ∧ Hid (m ∈ zs ∧ ∀ (j : Nat) z, j < n → zs[j]? = some z → m ≤ z)) (fun _ s4 => len - (intOf s4).toNat)
  case atStart =>
    refine ⟨1, z0, by omega, by omega, rfl, rfl, Lib.hid ⟨List.mem_of_getElem? HZ.out, fun j z hj hz => ?_⟩⟩
    obtain rfl : j = 0 := by omega
    rw [HZ.out] at hz
    cases hz
    omega
  case round =>
    obtain ⟨n, m, hn1, hn, rfl, rfl, HM⟩ := hrel
    clear c0
    by_cases hlt : n < len
    · obtain ⟨z, hz⟩ : ∃ z, zs[n]? = some z := ⟨zs[n]'(by rw [← HL.out]; exact hlt), List.getElem?_eq_getElem _⟩
      have c := HC.out n z hz
      have HZn := Lib.hid hz
      clear hz
      have cs : m ≤ z ∨ z < m := by omega
      rcases cs with h | h
      all_goals
        go_wp2
        go_round
        case rel =>
          refine ⟨n + 1, _, by omega, by omega, by go_num, rfl, Lib.hid ?_⟩
          refine more_min HZn.out HM.out.1 HM.out.2 ?_ ?_
          · first | exact .inl rfl | exact .inr rfl | (split <;> simp)
          · first | (split <;> omega) | omega
        case measure => simp [intOf]; omega
    · obtain rfl : n = len := by omega
      go_wp2
      go_ret
      refine ⟨m, rfl, HM.out.1, fun z hz => ?_, rfl⟩
      obtain ⟨j, hj, e⟩ := List.mem_iff_getElem.1 hz
      exact HM.out.2 j z (by rw [HL.out]; exact hj) (by rw [← e]; exact List.getElem?_eq_getElem hj)

set_option maxRecDepth 100000 in
set_option maxHeartbeats 2000000 in
theorem max_any (b cap : Nat) (zs : List Int) (w : World) (hc : ∀ (j : Nat) (z : Int), zs[j]? = some z → w.cell? ⟨b, j, none⟩ = some (.int .i64 z)) (h1 : 0 < zs.length) (hm : zs.length ≤ 9223372036854775807) :
    Calls Tryd.prog 51 #[.slice (some ⟨b, 0, none⟩) zs.length cap] w (MaxOf zs w) := by
  obtain ⟨len, hlen⟩ : ∃ len, len = zs.length := ⟨_, rfl⟩
  rw [← hlen] at hm h1 ⊢
  have HC := Lib.hid hc
  have HL := Lib.hid hlen
  obtain ⟨z0, hz0⟩ : ∃ z, zs[0]? = some z := ⟨zs[0]'(by omega), List.getElem?_eq_getElem _⟩
  have c0 := hc 0 z0 hz0
  have HZ := Lib.hid hz0
  clear hc hlen hz0
  have hd : decide ((len : Int) < 1) = false := decide_eq_false (by omega)
  have hd1 : ¬ (len : Int) < 1 := by omega
  have hd2 : 0 < len := h1
  go_enter Tryd.func51, Tryd.ntmps51
  go_wp2_with fail
  go_loop [3, 4] (fun s3 s4 => ∃ (n : Nat) (m : Int), 1 ≤ n ∧ n ≤ len ∧ s4 = .int .i64 n ∧ s3 = .int .i64 m ∧ Hid (m ∈ zs ∧ ∀ (j : Nat) z, j < n → zs[j]? = some z → z ≤ m)) (fun _ s4 => len - (intOf s4).toNat)
  case atStart =>
    refine ⟨1, z0, by omega, by omega, rfl, rfl, Lib.hid ⟨List.mem_of_getElem? HZ.out, fun j z hj hz => ?_⟩⟩
    obtain rfl : j = 0 := by omega
    rw [HZ.out] at hz
    cases hz
    omega
  case round =>
    obtain ⟨n, m, hn1, hn, rfl, rfl, HM⟩ := hrel
    clear c0
    by_cases hlt : n < len
    · obtain ⟨z, hz⟩ : ∃ z, zs[n]? = some z := ⟨zs[n]'(by rw [← HL.out]; exact hlt), List.getElem?_eq_getElem _⟩
      have c := HC.out n z hz
      have HZn := Lib.hid hz
      clear hz
      have cs : m ≤ z ∨ z < m := by omega
      rcases cs with h | h
      all_goals
        go_wp2
        go_round
        case rel =>
          refine ⟨n + 1, _, by omega, by omega, by go_num, rfl, Lib.hid ?_⟩
          refine more_max HZn.out HM.out.1 HM.out.2 ?_ ?_
          · first | exact .inl rfl | exact .inr rfl | (split <;> simp)
          · first | (split <;> omega) | omega
        case measure => simp [intOf]; omega
    · obtain rfl : n = len := by omega
      go_wp2
      go_ret
      refine ⟨m, rfl, HM.out.1, fun z hz => ?_, rfl⟩
      obtain ⟨j, hj, e⟩ := List.mem_iff_getElem.1 hz
      exact HM.out.2 j z (by rw [HL.out]; exact hj) (by rw [← e]; exact List.getElem?_eq_getElem hj)
end Go.Proofs.YtpnnbihofoomeaaDoor

/-
  layout.Right.
-/
namespace Go.Proofs.YtpnnbihofoomeaaDoor
open Go.RowKit Go.Shelf
attribute [local go_sem] Oper.semAt_some

def sizesT (L : Lay) : Bool := decide (L.secs.length ≤ 24) && decide (L.sigs.length ≤ 12) && decide (L.exits.length ≤ 12) && decide (L.flanks.length ≤ 16)
def Lay.times (L : Lay) : List Int := [L.t0, L.t1, L.t2, L.t3, L.t4, L.t5, L.t6]
def timesT (L : Lay) : Bool := L.times.all fun t => decide (1 ≤ t) && decide (t ≤ 1000)
def overT (L : Lay) (x : Ext') : Bool := decide (x.over.length ≤ 2) && x.over.all (fun s => stepB L s.s s.i s.o)
def portsT (L : Lay) : Bool := (portsL L).all (fun x => hasB L x.s x.p)
def rightL (L : Lay) : Bool := sizesT L && timesT L && L.secs.all rightT && L.flanks.all (flankT L) && portsT L && L.exits.all (overT L)
theorem any_not {α : Type} (f : α → Bool) (xs : List α) : xs.any (fun x => !f x) = !xs.all f := by
  induction xs with
  | nil => rfl
  | cons x xs ih => simp [ih]
theorem times_min {L : Lay} {m : Int} (h1 : m ∈ L.times) (h2 : ∀ z ∈ L.times, m ≤ z) {k : Int} (h3 : k ∈ L.times) (h4 : ∀ z ∈ L.times, z ≤ k) : timesT L = (decide (1 ≤ m) && decide (k ≤ 1000)) := by
  unfold timesT
  rw [Bool.eq_iff_iff]
  simp only [List.all_eq_true, Bool.and_eq_true, decide_eq_true_iff]
  constructor
  · intro h; exact ⟨(h m h1).1, (h k h3).2⟩
  · intro h z hz
    have := h2 z hz
    have := h4 z hz
    omega

theorem ports_stops (L : Lay) (p : Where) (g : Nat) (w : World) (hL : LayAt w p L) (hB : Box w g L p) :
    SeqStopsK Fence.wide 4 Tryd.prog 86 #[.pointer (some ⟨g, 0, none⟩)] (fun x : Prt => #[.agg #[.int .i64 x.s, .int .i64 x.p]]) (KeepsE NoB NoT w.heap.size) (fun ys => ys = portsL L) (fun pre => pre <+: portsL L) (portsL L).length w := by
  intro l J Jx W hW hJ _ hY hJ0
  exact ports1_in l g w.heap.size L p J Jx W hJ hY (hL.below hW) (hB.below hW) hJ0

/-- What Right's loop over the ports leaves. -/
def PI (L : Lay) (pre : List Prt) : Prop := ∀ x ∈ pre, hasB L x.s x.p = true
def PX (L : Lay) (c : Code) (pre : List Prt) : Prop := c = .goto 0 ∧ ∃ x ∈ pre, hasB L x.s x.p = false

set_option maxRecDepth 100000 in
set_option maxHeartbeats 16000000 in
theorem rightLay_any (L : Lay) (p : Where) (w : World) (hL : LayAt w p L) (K : Kinds w) :
    Calls Tryd.prog 22 #[L.val p] w fun e w' => e = .returned (.bool (rightL L)) ∧ Below w.heap.size w w' := by
  have hr : (sizesT L = true → timesT L = true → L.secs.all rightT = true → L.flanks.all (flankT L) = true → portsT L = true → rightL L = L.exits.all (overT L)) ∧
      (sizesT L = false → rightL L = false) ∧ (timesT L = false → rightL L = false) ∧ (L.secs.all rightT = false → rightL L = false) ∧ (L.flanks.all (flankT L) = false → rightL L = false) ∧ (portsT L = false → rightL L = false) := by
    unfold rightL
    refine ⟨fun h1 h2 h3 h4 h5 => by simp [h1, h2, h3, h4, h5], fun h => by simp [h], fun h => by simp [h], fun h => by simp [h], fun h => by simp [h], fun h => by simp [h]⟩
  generalize rightL L = r at hr ⊢
  have m0 : L.secs.length ≤ 9223372036854775807 := Nat.le_trans hL.l0.1 hL.l0.2
  have m1 : L.sigs.length ≤ 9223372036854775807 := Nat.le_trans hL.l1.1 hL.l1.2
  have m2 : L.exits.length ≤ 9223372036854775807 := Nat.le_trans hL.l2.1 hL.l2.2
  have m3 : L.flanks.length ≤ 9223372036854775807 := Nat.le_trans hL.l3.1 hL.l3.2
  obtain ⟨a0, a1, a2, a3, p0, p1, p2, p3⟩ := p
  have HR := Lib.hid hr
  have HL := Lib.hid hL
  have KH := Lib.hid K
  clear hr hL K
  refine calls_marked w.heap.size Tryd.func22 rfl ?_
  simp only [Tryd.ntmps22, List.size_toArray, List.length_cons, List.length_nil, Nat.reduceAdd, Nat.reduceSub, Array.replicate_succ, Array.replicate_zero, List.push_toArray, List.append_toArray, List.nil_append, List.cons_append]
  go_wp2_with fail
  refine wp_scope_fwd 0 rfl ?_
  go_upto_region 6 with fail
  obtain ⟨X, hX⟩ : ∃ X, X = ((w.alloc (.cells #[.slice a0 L.secs.length p0, .slice a1 L.sigs.length p1, .slice a2 L.exits.length p2, .slice a3 L.flanks.length p3, .int .i64 L.t0, .int .i64 L.t1, .int .i64 L.t2, .int .i64 L.t3, .int .i64 L.t4, .int .i64 L.t5, .int .i64 L.t6] 29)).alloc (.cells #[.int .i64 L.t0, .int .i64 L.t1, .int .i64 L.t2, .int .i64 L.t3, .int .i64 L.t4, .int .i64 L.t5, .int .i64 L.t6] 27)).alloc (.cells #[.int .i64 L.t0, .int .i64 L.t1, .int .i64 L.t2, .int .i64 L.t3, .int .i64 L.t4, .int .i64 L.t5, .int .i64 L.t6] 3) := ⟨_, rfl⟩
  have hB : Below w.heap.size w X := by rw [hX]; exact bchain (bchain bself bself) bself
  have hsz : X.heap.size = w.heap.size + 3 := by rw [hX]; simp
  have hBox : Box X w.heap.size L ⟨a0, a1, a2, a3, p0, p1, p2, p3⟩ := by
    refine ⟨by omega, fun i v hv => ?_⟩
    rw [hX]
    simpa [go_sem, Lay.cells] using hv
  have hT : ∀ (j : Nat) (z : Int), L.times[j]? = some z → X.cell? ⟨w.heap.size + 1 + 1, j, none⟩ = some (.int .i64 z) := by
    intro j z hz
    rw [hX]
    have hl : j < 7 := (List.getElem?_eq_some_iff.1 hz).1
    have : j = 0 ∨ j = 1 ∨ j = 2 ∨ j = 3 ∨ j = 4 ∨ j = 5 ∨ j = 6 := by omega
    rcases this with rfl | rfl | rfl | rfl | rfl | rfl | rfl <;> (cases hz; simp [go_sem])
  rw [← hX]
  have HBX := Lib.hid hB
  have HBo := Lib.hid hBox
  have HT := Lib.hid hT
  have lX : w.heap.size < X.heap.size := by omega
  have c0 : X.cell? ⟨w.heap.size, 0, none⟩ = some (.slice a0 L.secs.length p0) := hBox.2 0 _ rfl
  have c1 : X.cell? ⟨w.heap.size, 1, none⟩ = some (.slice a1 L.sigs.length p1) := hBox.2 1 _ rfl
  have c2 : X.cell? ⟨w.heap.size, 2, none⟩ = some (.slice a2 L.exits.length p2) := hBox.2 2 _ rfl
  have c3 : X.cell? ⟨w.heap.size, 3, none⟩ = some (.slice a3 L.flanks.length p3) := hBox.2 3 _ rfl
  clear hX hB hsz hBox hT
  by_cases h0 : 24 < L.secs.length ∨ 12 < L.sigs.length ∨ 12 < L.exits.length ∨ 16 < L.flanks.length
  · obtain rfl : r = false := HR.out.2.1 (by unfold sizesT; simp; omega)
    have h0' : (24 : Int) < L.secs.length ∨ (12 : Int) < L.sigs.length ∨ (12 : Int) < L.exits.length ∨ (16 : Int) < L.flanks.length := by omega
    clear h0
    go_wp2_with fail
    all_goals
      first
        | (exfalso; omega)
        | (
           refine wp_goto ?_
           refine ⟨rfl, ?_⟩
           go_wp2
           rw [Exit.noGoto_ret]
           exact ⟨⟨[], Marked.nil _ _⟩, fun w' hb hk => ⟨.bool false, by simp [results, Tryd.results22, go_sem], rfl, (HBX.out).trans hb⟩⟩)
  · have hs : sizesT L = true := by unfold sizesT; simp; omega
    have HS := Lib.hid hs
    have d0 : decide ((24 : Int) < (L.secs.length : Int)) = false := decide_eq_false (by omega)
    have d1 : decide ((12 : Int) < (L.sigs.length : Int)) = false := decide_eq_false (by omega)
    have d2 : decide ((12 : Int) < (L.exits.length : Int)) = false := decide_eq_false (by omega)
    have d3 : decide ((16 : Int) < (L.flanks.length : Int)) = false := decide_eq_false (by omega)
    clear h0 hs
    have hmin : Calls Tryd.prog 50 #[.slice (some ⟨w.heap.size + 1 + 1, 0, none⟩) 7 7] X (MinOf L.times X) := min_any (w.heap.size + 1 + 1) 7 L.times X HT.out (by simp [Lay.times]) (by simp [Lay.times])
    have hmax : Calls Tryd.prog 51 #[.slice (some ⟨w.heap.size + 1 + 1, 0, none⟩) 7 7] X (MaxOf L.times X) := max_any (w.heap.size + 1 + 1) 7 L.times X HT.out (by simp [Lay.times]) (by simp [Lay.times])
    have hcs : ∀ W, Below X.heap.size X W → Calls Tryd.prog 52 #[.slice a0 L.secs.length p0, .func (.func 43) #[] #[]] W fun e w' => e = .returned (.bool (L.secs.any (fun c => !rightT c))) ∧ Below W.heap.size W w' := fun W hW =>
      containsSection_any 43 #[] (enters_of Tryd.func43 (by kernel_rfl) rfl) (fun c => !rightT c) a0 p0 L.secs W (HL.out.below (bchain HBX.out hW)).secs HL.out.l0.1 HL.out.l0.2
        (fun W' c hc hb => by simpa using right1_any c (HL.out.kinds c hc).1 (HL.out.kinds c hc).2 W' (KH.out.below (bchain (bchain HBX.out hW) hb)))
    have hcf : ∀ W, Below X.heap.size X W → Calls Tryd.prog 53 #[.slice a3 L.flanks.length p3, .func (.func 47) #[] #[.pointer (some ⟨w.heap.size, 0, none⟩)]] W fun e w' => e = .returned (.bool (L.flanks.any (fun c => !flankT L c))) ∧ Below W.heap.size W w' := fun W hW =>
      containsFlank_any 47 #[.pointer (some ⟨w.heap.size, 0, none⟩)] (enters_of Tryd.func47 (by kernel_rfl) rfl) (fun c => !flankT L c) a3 p3 L.flanks W (HL.out.below (bchain HBX.out hW)).flanks HL.out.l3.1 HL.out.l3.2
        (fun W' c _ hb => right3_any L ⟨a0, a1, a2, a3, p0, p1, p2, p3⟩ c w.heap.size W' (HL.out.below (bchain (bchain HBX.out hW) hb)) (KH.out.below (bchain (bchain HBX.out hW) hb)) (HBo.out.below (bchain hW hb)))
    rw [any_not] at hcs hcf
    obtain ⟨q1, hq1⟩ : ∃ q, q = L.secs.all rightT := ⟨_, rfl⟩
    obtain ⟨q2, hq2⟩ : ∃ q, q = L.flanks.all (flankT L) := ⟨_, rfl⟩
    rw [← hq1] at hcs
    rw [← hq2] at hcf
    rw [← hq1, ← hq2] at HR
    have HMIN := Lib.hid hmin
    have HMAX := Lib.hid hmax
    have HCS := Lib.hid hcs
    have HCF := Lib.hid hcf
    clear hmin hmax hcs hcf hq1 hq2
    go_wp2_with fail
    (with_reducible refine HMIN.out.mono ?_)
    rintro e w1 ⟨m, rfl, hm1, hm2, rfl⟩
    have HM := Lib.hid (⟨hm1, hm2⟩ : _ ∧ _)
    clear hm1 hm2
    by_cases g1 : m < 1
    · obtain rfl : r = false := HR.out.2.2.1 (by
        unfold timesT
        rw [List.all_eq_false]
        exact ⟨m, HM.out.1, by simp; omega⟩)
      go_wp2_with fail
      refine wp_goto ?_
      refine ⟨rfl, ?_⟩
      go_wp2
      rw [Exit.noGoto_ret]
      exact ⟨⟨[], Marked.nil _ _⟩, fun w' hb hk => ⟨.bool false, by simp [results, Tryd.results22, go_sem], rfl, (HBX.out).trans hb⟩⟩
    · have e1 : decide (m < 1) = false := decide_eq_false g1
      go_wp2_with fail
      (with_reducible refine HMAX.out.mono ?_)
      rintro e w1 ⟨k, rfl, hk1, hk2, rfl⟩
      have HK := Lib.hid (⟨hk1, hk2⟩ : _ ∧ _)
      clear hk1 hk2
      by_cases g2 : 1000 < k
      · obtain rfl : r = false := HR.out.2.2.1 (by
          unfold timesT
          rw [List.all_eq_false]
          exact ⟨k, HK.out.1, by simp; omega⟩)
        have e2 : decide ((1000 : Int) < k) = true := decide_eq_true g2
        go_wp2_with fail
        refine wp_goto ?_
        refine ⟨rfl, ?_⟩
        go_wp2
        rw [Exit.noGoto_ret]
        exact ⟨⟨[], Marked.nil _ _⟩, fun w' hb hk => ⟨.bool false, by simp [results, Tryd.results22, go_sem], rfl, (HBX.out).trans hb⟩⟩
      · have e2 : decide ((1000 : Int) < k) = false := decide_eq_false g2
        have ht : timesT L = true := by
          rw [times_min HM.out.1 HM.out.2 HK.out.1 HK.out.2]
          simp
          omega
        have HTT := Lib.hid ht
        clear ht
        go_wp2_with fail
        (with_reducible refine (HCS.out _ (Below.refl _ _)).mono ?_)
        rintro e W1 ⟨rfl, b1⟩
        cases q1 with
        | false =>
          obtain rfl : r = false := HR.out.2.2.2.1 rfl
          have B1 := bchain HBX.out b1
          clear b1
          go_wp2_with fail
          refine wp_goto ?_
          refine ⟨rfl, ?_⟩
          go_wp2
          rw [Exit.noGoto_ret]
          exact ⟨⟨[], Marked.nil _ _⟩, fun w' hb hk => ⟨.bool false, by simp [results, Tryd.results22, go_sem], rfl, (B1).trans hb⟩⟩
        | true =>
          have HB1 := Lib.hid b1
          have lX1 : w.heap.size < W1.heap.size := Nat.lt_of_lt_of_le lX b1.size
          have x3 := (b1.cell (p := ⟨w.heap.size, 3, none⟩) lX).trans c3
          clear b1 c0 c1 c2 c3
          go_wp2_with fail
          (with_reducible refine (HCF.out _ HB1.out).mono ?_)
          rintro e W2 ⟨rfl, b2⟩
          have HB2 := Lib.hid (bchain HB1.out b2)
          have lX2 : w.heap.size < W2.heap.size := Nat.lt_of_lt_of_le lX1 b2.size
          clear b2 x3 HB1
          cases q2 with
          | false =>
            obtain rfl : r = false := HR.out.2.2.2.2.1 rfl
            have B1 := bchain HBX.out HB2.out
            go_wp2_with fail
            refine wp_goto ?_
            refine ⟨rfl, ?_⟩
            go_wp2
            rw [Exit.noGoto_ret]
            exact ⟨⟨[], Marked.nil _ _⟩, fun w' hb hk => ⟨.bool false, by simp [results, Tryd.results22, go_sem], rfl, (B1).trans hb⟩⟩
          | true =>
            have hbox2 := HBo.out.below HB2.out
            have c0 : W2.cell? ⟨w.heap.size, 0, none⟩ = some (.slice a0 L.secs.length p0) := hbox2.2 0 _ rfl
            have c1 : W2.cell? ⟨w.heap.size, 1, none⟩ = some (.slice a1 L.sigs.length p1) := hbox2.2 1 _ rfl
            have c2 : W2.cell? ⟨w.heap.size, 2, none⟩ = some (.slice a2 L.exits.length p2) := hbox2.2 2 _ rfl
            have c3 : W2.cell? ⟨w.heap.size, 3, none⟩ = some (.slice a3 L.flanks.length p3) := hbox2.2 3 _ rfl
            have c4 : W2.cell? ⟨w.heap.size, 4, none⟩ = some (.int .i64 L.t0) := hbox2.2 4 _ rfl
            have c5 : W2.cell? ⟨w.heap.size, 5, none⟩ = some (.int .i64 L.t1) := hbox2.2 5 _ rfl
            have c6 : W2.cell? ⟨w.heap.size, 6, none⟩ = some (.int .i64 L.t2) := hbox2.2 6 _ rfl
            have c7 : W2.cell? ⟨w.heap.size, 7, none⟩ = some (.int .i64 L.t3) := hbox2.2 7 _ rfl
            have c8 : W2.cell? ⟨w.heap.size, 8, none⟩ = some (.int .i64 L.t4) := hbox2.2 8 _ rfl
            have c9 : W2.cell? ⟨w.heap.size, 9, none⟩ = some (.int .i64 L.t5) := hbox2.2 9 _ rfl
            have c10 : W2.cell? ⟨w.heap.size, 10, none⟩ = some (.int .i64 L.t6) := hbox2.2 10 _ rfl
            have hpf := ports_fn L ⟨a0, a1, a2, a3, p0, p1, p2, p3⟩ W2
            unfold Lay.val at hpf
            have HPF := Lib.hid hpf
            clear hbox2 hpf
            go_wp2_with fail
            (with_reducible refine HPF.out.mono ?_)
            rintro e W3 ⟨rfl, rfl⟩
            go_wp2_with fail
            have hBV : Below w.heap.size w (W2.alloc (.cells (L.cells ⟨a0, a1, a2, a3, p0, p1, p2, p3⟩).toArray 29)) := bchain (bchain HBX.out HB2.out) bself
            have hbV : Box (W2.alloc (.cells (L.cells ⟨a0, a1, a2, a3, p0, p1, p2, p3⟩).toArray 29)) W2.heap.size L ⟨a0, a1, a2, a3, p0, p1, p2, p3⟩ := ⟨by simp, fun i v hv => by simpa [go_sem] using hv⟩
            have hbo : Box (W2.alloc (.cells (L.cells ⟨a0, a1, a2, a3, p0, p1, p2, p3⟩).toArray 29)) w.heap.size L ⟨a0, a1, a2, a3, p0, p1, p2, p3⟩ := HBo.out.below (bchain HB2.out bself)
            have hlV : W2.heap.size + 1 = (W2.alloc (.cells (L.cells ⟨a0, a1, a2, a3, p0, p1, p2, p3⟩).toArray 29)).heap.size := by simp
            generalize (W2.alloc (.cells (L.cells ⟨a0, a1, a2, a3, p0, p1, p2, p3⟩).toArray 29)) = V at hBV hbV hbo hlV ⊢
            have HBV := Lib.hid hBV
            have HBO := Lib.hid hbo
            have HLV := Lib.hid (HL.out.below hBV)
            have HKV := Lib.hid (KH.out.below hBV)
            have hlw : w.heap.size ≤ V.heap.size := hBV.size
            clear c0 c1 c2 c3 c4 c5 c6 c7 c8 c9 c10 HPF HB2
            refine wp_range_box (gf := 86) (lb := #[.pointer (some ⟨W2.heap.size, 0, none⟩)]) rfl (enters_of Tryd.func86 (by kernel_rfl) rfl) (fun x : Prt => x.enc) 8
              (ports_stops L ⟨a0, a1, a2, a3, p0, p1, p2, p3⟩ W2.heap.size _ HLV.out hbV) (fun _ => rfl) (PI L) (PX L) (fun _ h => (by cases h)) ?assign ?body ?done ?stop
            case assign =>
              intro l x W Kn hK
              gi_wp2
              refine hK _ _ bself ⟨W.heap.size, by first | rfl | simp [go_sem], by simp, fun i v hv => ?_⟩
              simpa [go_sem, Prt.enc] using hv
            case body =>
              rintro l pre x bx W hb hi lbx hcs hlen
              have k0 : W.cell? ⟨bx, 0, none⟩ = some (.int .i64 x.s) := hcs 0 _ rfl
              have k1 : W.cell? ⟨bx, 1, none⟩ = some (.int .i64 x.p) := hcs 1 _ rfl
              clear hcs
              have hbx := HBO.out.below hb
              have lg := hbx.1
              have c0 : W.cell? ⟨w.heap.size, 0, none⟩ = some (.slice a0 L.secs.length p0) := hbx.2 0 _ rfl
              have c1 : W.cell? ⟨w.heap.size, 1, none⟩ = some (.slice a1 L.sigs.length p1) := hbx.2 1 _ rfl
              have c2 : W.cell? ⟨w.heap.size, 2, none⟩ = some (.slice a2 L.exits.length p2) := hbx.2 2 _ rfl
              have c3 : W.cell? ⟨w.heap.size, 3, none⟩ = some (.slice a3 L.flanks.length p3) := hbx.2 3 _ rfl
              have c4 : W.cell? ⟨w.heap.size, 4, none⟩ = some (.int .i64 L.t0) := hbx.2 4 _ rfl
              have c5 : W.cell? ⟨w.heap.size, 5, none⟩ = some (.int .i64 L.t1) := hbx.2 5 _ rfl
              have c6 : W.cell? ⟨w.heap.size, 6, none⟩ = some (.int .i64 L.t2) := hbx.2 6 _ rfl
              have c7 : W.cell? ⟨w.heap.size, 7, none⟩ = some (.int .i64 L.t3) := hbx.2 7 _ rfl
              have c8 : W.cell? ⟨w.heap.size, 8, none⟩ = some (.int .i64 L.t4) := hbx.2 8 _ rfl
              have c9 : W.cell? ⟨w.heap.size, 9, none⟩ = some (.int .i64 L.t5) := hbx.2 9 _ rfl
              have c10 : W.cell? ⟨w.heap.size, 10, none⟩ = some (.int .i64 L.t6) := hbx.2 10 _ rfl
              have hat := at_any L ⟨a0, a1, a2, a3, p0, p1, p2, p3⟩ x.s x.p W (HLV.out.below hb) (HKV.out.below hb)
              have hh : hasB L x.s x.p = (atO L x.s x.p).isSome := rfl
              unfold Lay.val atV Sec.enc at hat
              obtain ⟨xs, xp⟩ := x
              dsimp only at k0 k1 hat hh
              generalize (atO L xs xp).getD zeroSec = z at hat
              generalize (atO L xs xp).isSome = y at hat hh
              have HAT := Lib.hid hat
              have HH := Lib.hid hh
              have HI := Lib.hid hi
              clear hbx hat hh hi
              gi_wp2_with fail
              refine ⟨trivial, (callsIn_wide.2 HAT.out).mono ?_⟩
              rintro e W4 ⟨rfl, b4⟩
              cases y with
              | true =>
                gi_wp2
                refine ⟨bchain b4 bself, fun t ht => ?_⟩
                rcases List.mem_append.1 ht with ht | ht
                · exact HI.out t ht
                · rw [List.mem_singleton.1 ht]; exact HH.out
              | false =>
                gi_wp2
                refine wpIn_goto ?_
                exact ⟨bchain b4 bself, rfl, ⟨xs, xp⟩, by simp, HH.out⟩
            case stop =>
              rintro D c pre W hD hS hw ⟨rfl, x, hx, hf⟩ hK
              obtain rfl : r = false := HR.out.2.2.2.2.2 (by
                unfold portsT
                rw [List.all_eq_false]
                exact ⟨x, hS.subset hx, by rw [hf]; simp⟩)
              have hB := bchain HBV.out hw
              refine wp_goto ?_
              refine ⟨rfl, ?_⟩
              dsimp only
              go_wp2
              try rw [Exit.noGoto_ret]
              refine ⟨⟨[D], ⟨rfl, by simp, ?held⟩⟩, fun w' hb hk => ⟨.bool false, by simp [results, Tryd.results22, go_sem], rfl, hB.trans hb⟩⟩
              case held =>
                rintro D' h
                simp only [List.mem_cons, List.not_mem_nil, or_false] at h
                subst h
                exact ⟨by omega, hK⟩
            case done =>
              rintro D ys W hD rfl hw hi hK
              have hpt : portsT L = true := by
                unfold portsT
                rw [List.all_eq_true]
                exact hi
              have HPT := Lib.hid hpt
              have HW := Lib.hid hw
              have HKD := Lib.hid hK
              have hbx := HBO.out.below hw
              have lg := hbx.1
              have c2 : W.cell? ⟨w.heap.size, 2, none⟩ = some (.slice a2 L.exits.length p2) := hbx.2 2 _ rfl
              clear hpt hw hi hK hbx
              dsimp only
              go_wp2_with fail
              go_loopg [88] L.exits.length (fun gg s88 wr => ∃ n : Nat, n ≤ L.exits.length ∧ L.exits.length - n ≤ gg ∧ s88 = .int .i64 n ∧ Hid (Below W.heap.size W wr) ∧ Hid (∀ (j : Nat), j < n → ∀ y, L.exits[j]? = some y → overT L y = true))
              case atStart => exact ⟨0, Nat.zero_le _, by omega, rfl, Lib.hid (Below.refl _ _), Lib.hid (fun j hj => absurd hj (Nat.not_lt_zero _))⟩
              case round =>
                obtain ⟨n, hn, hg, rfl, HBr, HJ⟩ := hrel
                clear c2
                have hBw := bchain HBV.out (bchain HW.out HBr.out)
                have lgr : w.heap.size < wr.heap.size := by have := hBw.size; have := hlw; have := HBr.out.size; omega
                have hKr : wr.heap[D]? = some (.deferred (some [])) := (HBr.out.block D (Array.getElem?_eq_some_iff.1 HKD.out).1).trans HKD.out
                have HKR := Lib.hid hKr
                have HBW := Lib.hid hBw
                clear hKr hBw
                by_cases hlt : n < L.exits.length
                · obtain ⟨es, hes, hAt, hov⟩ := (HL.out.below HBW.out).exits
                  have hlen : es.length = L.exits.length := by rw [← hes, List.length_map]
                  obtain ⟨b, off, hAe, hrow⟩ := hAt.get (j := n) (by omega)
                  dsimp only at hAe
                  subst hAe
                  obtain ⟨y, hy⟩ : ∃ y, es[n]? = some y := ⟨es[n]'(by omega), List.getElem?_eq_getElem (by omega)⟩
                  have hx : L.exits[n]? = some y.1 := by rw [← hes, List.getElem?_map, hy]; rfl
                  have k0 : wr.cell? ⟨b, off + n * 3, none⟩ = some (.int .i64 y.1.s) := hrow.2 n y hy 0 _ rfl
                  have k1 : wr.cell? ⟨b, off + n * 3 + 1, none⟩ = some (.int .i64 y.1.p) := hrow.2 n y hy 1 _ rfl
                  have k2 : wr.cell? ⟨b, off + n * 3 + 2, none⟩ = some y.2 := hrow.2 n y hy 2 _ rfl
                  obtain ⟨vA, vc, ve, hvl, hvm, hva⟩ := hov y (List.mem_of_getElem? hy)
                  have hover : overT L y.1 = (decide (y.1.over.length ≤ 2) && y.1.over.all (fun s => stepB L s.s s.i s.o)) := rfl
                  have hcst : ∀ W', Below wr.heap.size wr W' → Calls Tryd.prog 56 #[.slice vA y.1.over.length vc, .func (.func 45) #[] #[.pointer (some ⟨w.heap.size, 0, none⟩)]] W' fun e w' => e = .returned (.bool (y.1.over.any (fun s => !stepB L s.s s.i s.o))) ∧ Below W'.heap.size W' w' := fun W' hW' =>
                    containsStep_any 45 #[.pointer (some ⟨w.heap.size, 0, none⟩)] (enters_of Tryd.func45 (by kernel_rfl) rfl) (fun s => !stepB L s.s s.i s.o) vA vc y.1.over W' (hva.below hW') hvl hvm
                      (fun W'' s _ hb => right2_any L _ s.s s.i s.o w.heap.size W'' (HL.out.below (bchain (bchain HBW.out hW') hb)) (KH.out.below (bchain (bchain HBW.out hW') hb)) (HBO.out.below (bchain (bchain (bchain HW.out HBr.out) hW') hb)))
                  rw [any_not] at hcst
                  have hx1 : overT L y.1 = false → L.exits.all (overT L) = false := fun h => by rw [List.all_eq_false]; exact ⟨y.1, List.mem_of_getElem? hx, by rw [h]; simp⟩
                  have HX := Lib.hid (⟨hx, hx1⟩ : _ ∧ _)
                  rw [ve] at k2
                  obtain ⟨m, hm⟩ : ∃ m, m = y.1.over.length := ⟨_, rfl⟩
                  obtain ⟨ov, hov'⟩ : ∃ o, o = overT L y.1 := ⟨_, rfl⟩
                  obtain ⟨al, hal⟩ : ∃ o, o = y.1.over.all (fun s => stepB L s.s s.i s.o) := ⟨_, rfl⟩
                  rw [← hm] at k2
                  rw [← hm, ← hal] at hcst
                  rw [← hm, ← hal, ← hov'] at hover
                  rw [← hov'] at HX
                  have HOV := Lib.hid (⟨hover, hov'⟩ : _ ∧ _)
                  have HCST := Lib.hid hcst
                  have lb := hrow.1
                  have hm2 : m ≤ 9223372036854775807 := by
                    rw [hm]
                    exact Nat.le_trans hvl hvm
                  generalize y.1.s = es1 at k0
                  generalize y.1.p = ep1 at k1
                  clear hes hAt hov hlen hrow hy hx hx1 ve hvl hvm hva hcst hm hal hov' hover
                  by_cases g1 : 2 < m
                  · have hof : ov = false := by rw [HOV.out.1, decide_eq_false (by omega)]; rfl
                    obtain rfl : r = false := (HR.out.1 HS.out HTT.out (by simp) (by simp) HPT.out).trans (HX.out.2 hof)
                    have d1 : decide ((2 : Int) < (m : Int)) = true := decide_eq_true (by omega)
                    go_wp2_with fail
                    refine wp_goto ?_
                    refine ⟨rfl, ?_⟩
                    go_wp2
                    rw [Exit.noGoto_ret]
                    refine ⟨⟨[D], ⟨rfl, by simp, ?held⟩⟩, fun w' hb hk => ⟨.bool false, by simp [results, Tryd.results22, go_sem], rfl, (bchain HBW.out bself).trans hb⟩⟩
                    case held =>
                      rintro D' h
                      simp only [List.mem_cons, List.not_mem_nil, or_false] at h
                      subst h
                      exact ⟨by omega, (bself.block _ (Array.getElem?_eq_some_iff.1 HKR.out).1).trans HKR.out⟩
                  · have d1 : decide ((2 : Int) < (m : Int)) = false := decide_eq_false (by omega)
                    go_wp2_with fail
                    (with_reducible refine (HCST.out _ bself).mono ?_)
                    rintro e W5 ⟨rfl, b5⟩
                    have HB5 := Lib.hid (bnew b5)
                    clear b5
                    cases al with
                    | false =>
                      have hof : ov = false := by rw [HOV.out.1]; simp
                      obtain rfl : r = false := (HR.out.1 HS.out HTT.out (by simp) (by simp) HPT.out).trans (HX.out.2 hof)
                      go_wp2_with fail
                      refine wp_goto ?_
                      refine ⟨rfl, ?_⟩
                      go_wp2
                      rw [Exit.noGoto_ret]
                      refine ⟨⟨[D], ⟨rfl, by simp, ?held⟩⟩, fun w' hb hk => ⟨.bool false, by simp [results, Tryd.results22, go_sem], rfl, (bchain HBW.out HB5.out).trans hb⟩⟩
                      case held =>
                        rintro D' h
                        simp only [List.mem_cons, List.not_mem_nil, or_false] at h
                        subst h
                        exact ⟨by omega, (HB5.out.block _ (Array.getElem?_eq_some_iff.1 HKR.out).1).trans HKR.out⟩
                    | true =>
                      have hot : ov = true := by rw [HOV.out.1, decide_eq_true (by omega)]; rfl
                      go_wp2
                      go_roundg (L.exits.length - (n + 1))
                      case measure => omega
                      case rel =>
                        refine ⟨n + 1, by omega, by omega, by go_num, Lib.hid (bchain HBr.out HB5.out), Lib.hid (fun j hj z hz => ?_)⟩
                        by_cases e : j = n
                        · subst e
                          rw [HX.out.1] at hz
                          cases hz
                          rw [← HOV.out.2]
                          exact hot
                        · exact HJ.out j (by omega) z hz
                · obtain rfl : n = L.exits.length := by omega
                  have hall : L.exits.all (overT L) = true := by
                    rw [List.all_eq_true]
                    intro x hx
                    obtain ⟨j, hj, e⟩ := List.mem_iff_getElem.1 hx
                    exact HJ.out j hj x (by rw [← e]; exact List.getElem?_eq_getElem hj)
                  obtain rfl : r = true := (HR.out.1 HS.out HTT.out (by simp) (by simp) HPT.out).trans hall
                  go_wp2
                  rw [Exit.fwd_ret]
                  refine ⟨⟨[D], ⟨rfl, by simp, ?held⟩⟩, fun w' hb hk => ⟨.bool true, by simp [results, Tryd.results22, go_sem], rfl, HBW.out.trans hb⟩⟩
                  case held =>
                    rintro D' h
                    simp only [List.mem_cons, List.not_mem_nil, or_false] at h
                    subst h
                    exact ⟨by omega, HKR.out⟩
end Go.Proofs.YtpnnbihofoomeaaDoor

/-
  lockbarref06.section, times.
-/
namespace Go.Proofs.YtpnnbihofoomeaaDoor
open Go.RowKit Go.Shelf

def jokT (L : Lay) (c : Sec) (i : Nat) : Bool := decide (c.S i < 0) || hasB L (c.S i) (c.P i)
def secR (L : Lay) (c : Sec) : Bool := jokT L c 0 && jokT L c 1 && jokT L c 2 && jokT L c 3 && rightT c
theorem secR_facts (L : Lay) (c : Sec) : (∀ i, i < 4 → jokT L c i = false → secR L c = false) ∧ ((∀ i, i < 4 → jokT L c i = true) → secR L c = rightT c) := by
  unfold secR
  refine ⟨fun i hi h => ?_, fun h => ?_⟩
  · obtain rfl | rfl | rfl | rfl : i = 0 ∨ i = 1 ∨ i = 2 ∨ i = 3 := by omega
    all_goals simp [h]
  · rw [h 0 (by omega), h 1 (by omega), h 2 (by omega), h 3 (by omega)]
    simp

set_option maxRecDepth 100000 in
set_option maxHeartbeats 8000000 in
theorem rSection_any (L : Lay) (p : Where) (c : Sec) (w : World) (hL : LayAt w p L) :
    Calls Tryd.prog 38 #[L.val p, .agg c.enc.toArray] w fun e w' => e = .returned (.bool (secR L c)) ∧ Below w.heap.size w w' := by
  have hr := secR_facts L c
  generalize secR L c = r at hr ⊢
  have ht := fun (s q : Int) w1 (b : Below w.heap.size w w1) => rThere_any L p s q w1 (hL.below b)
  have h5 := fun w1 => rRight5_any c w1
  have hjt : ∀ i, jokT L c i = (decide (c.S i < 0) || hasB L (c.S i) (c.P i)) := fun _ => rfl
  have HR := Lib.hid hr
  have HT := Lib.hid ht
  have H5 := Lib.hid h5
  have HJT := Lib.hid hjt
  have hX := (BoxL.make (W := w) (L := L) (p := p) (n := w.heap.size) 29 rfl).below (bself (o := .cells c.enc.toArray 69))
  have hS := BoxS.make (w.alloc (.cells (L.cells p).toArray 29)) c
  rw [World.size_alloc] at hS
  clear hr ht h5 hjt hL
  unfold Sec.enc at *
  unfold Lay.val at *
  go_enter Tryd.func38, Tryd.ntmps38
  go_wp2_with fail
  obtain ⟨Y, hY⟩ : ∃ Y, Y = (w.alloc (.cells (L.cells p).toArray 29)).alloc (.cells #[.int .u8 c.k, .int .i64 c.s0, .int .i64 c.p0, .int .i64 c.s1, .int .i64 c.p1, .int .i64 c.s2, .int .i64 c.p2, .int .i64 c.s3, .int .i64 c.p3, .int .i64 c.c0, .int .i64 c.c1] 69) := ⟨_, rfl⟩
  have HB : Hid (Below w.heap.size w Y) := Lib.hid (by rw [hY]; exact bchain bself bself)
  have HX : Hid (BoxL Y w.heap.size L p) := Lib.hid (by rw [hY]; exact hX)
  have HS : Hid (BoxS Y (w.heap.size + 1) c) := Lib.hid (by rw [hY]; exact hS)
  have hY' : (w.alloc (.cells #[.slice p.a0 L.secs.length p.c0, .slice p.a1 L.sigs.length p.c1, .slice p.a2 L.exits.length p.c2, .slice p.a3 L.flanks.length p.c3, .int .i64 L.t0, .int .i64 L.t1, .int .i64 L.t2, .int .i64 L.t3, .int .i64 L.t4, .int .i64 L.t5, .int .i64 L.t6] 29)).alloc (.cells #[.int .u8 c.k, .int .i64 c.s0, .int .i64 c.p0, .int .i64 c.s1, .int .i64 c.p1, .int .i64 c.s2, .int .i64 c.p2, .int .i64 c.s3, .int .i64 c.p3, .int .i64 c.c0, .int .i64 c.c1] 69) = Y := hY.symm
  rw [hY']
  clear hY hY' hX hS
  go_loopw [5] (fun x5 wr => ∃ n : Nat, n ≤ 4 ∧ x5 = .int .i64 n ∧ Hid (∀ j, j < n → jokT L c j = true) ∧ Hid (Below Y.heap.size Y wr)) (fun x5 _ => 4 - (intOf x5).toNat)
  case atStart => exact ⟨0, by omega, rfl, Lib.hid (fun j hj => absurd hj (Nat.not_lt_zero _)), Lib.hid (Below.refl _ _)⟩
  case round =>
    obtain ⟨n, hn, rfl, HJ, HBr⟩ := hrel
    obtain ⟨V, rfl⟩ : ∃ V : World, V = wr := ⟨_, rfl⟩
    have xS := HS.out.below HBr.out
    have xL := HX.out.below HBr.out
    have lg := xS.1
    have lw := xL.1
    by_cases hn4 : n < 4
    · obtain ⟨cS, cP⟩ := xS.ports n hn4
      obtain ⟨r0, r1, r2, r3, r4, r5, r6, r7, r8, r9, r10⟩ := xL.cells
      have hjn := HJT.out n
      have hrf := HR.out.1 n hn4
      generalize c.S n = sn at cS cP hjn
      generalize c.P n = pn at cP hjn
      have hm := HT.out sn pn
      obtain ⟨jt, hjte⟩ : ∃ jt, jt = jokT L c n := ⟨_, rfl⟩
      rw [← hjte] at hjn hrf
      have next : jt = true → Hid (∀ j, j < n + 1 → jokT L c j = true) := fun h => Lib.hid fun j hj => by
        by_cases e : j = n
        · subst e; rw [← hjte]; exact h
        · exact HJ.out j (by omega)
      have NX := Lib.hid next
      clear hjte xS xL next
      have hn3 : (n : Int) < 4 := by omega
      have BV := Lib.hid (bchain HB.out HBr.out)
      by_cases h0 : 0 ≤ sn
      · have d0 : decide (0 ≤ sn) = true := decide_eq_true h0
        rw [show decide (sn < 0) = false from decide_eq_false (by omega), Bool.false_or] at hjn
        rw [← hjn] at hm
        have HM := Lib.hid hm
        clear hm hjn
        go_wp2_with fail
        refine wp_region_ext (by kernel_rfl) (by kernel_rfl) fun hx => ?_
        repeat (go_big_quiet_step ((go_at_call 39; exact Calls.ext (HM.out _ (bchain BV.out (Ext.below _))))))
        refine wpQuiet_nil ?_
        intro w5 b5
        have HB5 := Lib.hid (bchain HBr.out b5)
        clear b5
        cases jt
        · obtain rfl := hrf rfl
          go_wp2
          go_ret
          exact ⟨rfl, bchain HB.out HB5.out⟩
        · go_wp2
          go_roundw
          case rel => exact ⟨n + 1, by omega, by go_num, NX.out (by simp), HB5⟩
          case measure => simp [intOf]; omega
      · have d0 : decide (0 ≤ sn) = false := decide_eq_false h0
        have ht : jt = true := by rw [hjn, show decide (sn < 0) = true from decide_eq_true (by omega)]; rfl
        subst ht
        clear hm hjn hrf
        go_wp2_with fail
        refine wp_region_ext (by kernel_rfl) (by kernel_rfl) fun hx => ?_
        repeat (go_big_quiet_step (fail))
        refine wpQuiet_nil ?_
        intro w5 b5
        have HB5 := Lib.hid (bchain HBr.out b5)
        clear b5
        go_wp2
        go_roundw
        case rel => exact ⟨n + 1, by omega, by go_num, NX.out (by simp), HB5⟩
        case measure => simp [intOf]; omega
    obtain rfl : n = 4 := by omega
    obtain rfl := HR.out.2 HJ.out
    obtain ⟨t0, t1, t2, t3, t4, t5, t6, t7, t8, t9, t10⟩ := xS.cells
    clear xS xL
    go_wp2_with fail
    (with_reducible refine (H5.out _).mono ?_)
    rintro e w1 ⟨rfl, b1⟩
    go_wp2
    go_ret
    exact ⟨rfl, bchain (bchain HB.out HBr.out) b1⟩

set_option maxRecDepth 100000 in
set_option maxHeartbeats 8000000 in
theorem rTimes_any (L : Lay) (w : World) :
    Calls Tryd.prog 42 #[.agg #[.int .i64 L.t0, .int .i64 L.t1, .int .i64 L.t2, .int .i64 L.t3, .int .i64 L.t4, .int .i64 L.t5, .int .i64 L.t6]] w fun e w' => e = .returned (.bool (timesT L)) ∧ Below w.heap.size w w' := by
  have hr : (∀ (j : Nat) (z : Int), L.times[j]? = some z → ¬ (1 ≤ z ∧ z ≤ 1000) → timesT L = false) ∧ ((∀ (j : Nat) (z : Int), j < 7 → L.times[j]? = some z → 1 ≤ z ∧ z ≤ 1000) → timesT L = true) := by
    unfold timesT
    refine ⟨fun j z hj h => ?_, fun h => ?_⟩
    · rw [List.all_eq_false]
      exact ⟨z, List.mem_of_getElem? hj, by simpa using h⟩
    · rw [List.all_eq_true]
      intro z hz
      obtain ⟨j, hj⟩ := List.mem_iff_getElem?.1 hz
      have hlt : j < 7 := by have := (List.getElem?_eq_some_iff.1 hj).1; simpa [Lay.times] using this
      have := h j z hlt hj
      simp
      omega
  have hsome : ∀ j, j < 7 → ∃ z, L.times[j]? = some z := fun j hj => ⟨_, List.getElem?_eq_getElem (by simpa [Lay.times] using hj)⟩
  generalize timesT L = r at hr ⊢
  have HR := Lib.hid hr
  have HS := Lib.hid hsome
  have hc : ∀ (W : World) (j : Nat) (z : Int), L.times[j]? = some z → ((W.alloc (.cells #[.int .i64 L.t0, .int .i64 L.t1, .int .i64 L.t2, .int .i64 L.t3, .int .i64 L.t4, .int .i64 L.t5, .int .i64 L.t6] 27)).alloc (.cells #[.int .i64 L.t0, .int .i64 L.t1, .int .i64 L.t2, .int .i64 L.t3, .int .i64 L.t4, .int .i64 L.t5, .int .i64 L.t6] 76)).cell? ⟨W.heap.size + 1, j, none⟩ = some (.int .i64 z) := fun W j z hj => by
    rw [World.cell?_alloc_at _ _ _ _ (by simp)]
    have hlt : j < 7 := by have := (List.getElem?_eq_some_iff.1 hj).1; simpa [Lay.times] using this
    obtain rfl | rfl | rfl | rfl | rfl | rfl | rfl : j = 0 ∨ j = 1 ∨ j = 2 ∨ j = 3 ∨ j = 4 ∨ j = 5 ∨ j = 6 := by omega
    all_goals (simp [Lay.times] at hj; subst hj; rfl)
  have HC := Lib.hid (hc w)
  clear hr hc hsome
  go_enter Tryd.func42, Tryd.ntmps42
  go_wp2_with fail
  obtain ⟨Y, hY⟩ : ∃ Y, Y = (w.alloc (.cells #[.int .i64 L.t0, .int .i64 L.t1, .int .i64 L.t2, .int .i64 L.t3, .int .i64 L.t4, .int .i64 L.t5, .int .i64 L.t6] 27)).alloc (.cells #[.int .i64 L.t0, .int .i64 L.t1, .int .i64 L.t2, .int .i64 L.t3, .int .i64 L.t4, .int .i64 L.t5, .int .i64 L.t6] 76) := ⟨_, rfl⟩
  have HB : Hid (Below w.heap.size w Y) := Lib.hid (by rw [hY]; exact bchain bself bself)
  rw [← hY] at HC ⊢
  have lg : w.heap.size + 1 < Y.heap.size := by rw [hY]; simp
  clear hY
  go_loop [4] (fun x4 => ∃ n : Nat, n ≤ 7 ∧ x4 = .int .i64 n ∧ Hid (∀ (j : Nat) (z : Int), j < n → L.times[j]? = some z → 1 ≤ z ∧ z ≤ 1000)) (fun x4 => 7 - (intOf x4).toNat)
  case atStart => exact ⟨0, by omega, rfl, Lib.hid (fun j z hj => absurd hj (Nat.not_lt_zero _))⟩
  case round =>
    obtain ⟨n, hn, rfl, HJ⟩ := hrel
    by_cases hn7 : n < 7
    · obtain ⟨z, hz⟩ := HS.out n hn7
      have c0 := HC.out n z hz
      have hrf := HR.out.1 n z hz
      have hn8 : (n : Int) < 7 := by omega
      have next : 1 ≤ z ∧ z ≤ 1000 → Hid (∀ (j : Nat) (y : Int), j < n + 1 → L.times[j]? = some y → 1 ≤ y ∧ y ≤ 1000) := fun h => Lib.hid fun j y hj hy => by
        by_cases e : j = n
        · subst e
          rw [hz] at hy
          cases hy
          exact h
        · exact HJ.out j y (by omega) hy
      have NX := Lib.hid next
      have HRF := Lib.hid hrf
      clear next hz hrf
      by_cases h0 : 1 ≤ z
      · have d0 : decide (z < 1) = false := decide_eq_false (by omega)
        by_cases h1 : z ≤ 1000
        · have d1 : decide (1000 < z) = false := decide_eq_false (by omega)
          go_wp2
          go_round
          case rel => exact ⟨n + 1, by omega, by go_num, NX.out ⟨h0, h1⟩⟩
          case measure => simp [intOf]; omega
        · have d1 : decide (1000 < z) = true := decide_eq_true (by omega)
          obtain rfl := HRF.out (fun h => h1 h.2)
          go_wp2
          go_ret
          exact ⟨rfl, HB.out⟩
      · have d0 : decide (z < 1) = true := decide_eq_true (by omega)
        obtain rfl := HRF.out (fun h => h0 h.1)
        go_wp2
        go_ret
        exact ⟨rfl, HB.out⟩
    obtain rfl : n = 7 := by omega
    obtain rfl := HR.out.2 HJ.out
    go_wp2
    go_ret
    exact ⟨rfl, HB.out⟩
end Go.Proofs.YtpnnbihofoomeaaDoor

/-
  lockbarref06.exit, flank.
-/
namespace Go.Proofs.YtpnnbihofoomeaaDoor
open Go.RowKit Go.Shelf

def exitR (L : Lay) (x : Ext') : Bool := x.over.all (fun s => stepB L s.s s.i s.o) && (hasB L x.s x.p && decide (x.over.length ≤ 2))

set_option maxRecDepth 100000 in
set_option maxHeartbeats 8000000 in
theorem rExitOf_any (L : Lay) (p : Where) (x : Ext') (v : Value) (w : World) (hL : LayAt w p L) (hv : Sl w 3 Stp.enc v x.over) :
    Calls Tryd.prog 40 #[L.val p, .agg #[.int .i64 x.s, .int .i64 x.p, v]] w fun e w' => e = .returned (.bool (exitR L x)) ∧ Below w.heap.size w w' := by
  have hr : (∀ (k : Nat) (st : Stp), x.over[k]? = some st → stepB L st.s st.i st.o = false → exitR L x = false) ∧ ((∀ (k : Nat) (st : Stp), k < x.over.length → x.over[k]? = some st → stepB L st.s st.i st.o = true) → exitR L x = (hasB L x.s x.p && decide (x.over.length ≤ 2))) := by
    unfold exitR
    refine ⟨fun k st hk h => ?_, fun h => ?_⟩
    · rw [show x.over.all (fun s => stepB L s.s s.i s.o) = false from ?_]
      · rfl
      · rw [List.all_eq_false]
        exact ⟨st, List.mem_of_getElem? hk, by simp [h]⟩
    · rw [show x.over.all (fun s => stepB L s.s s.i s.o) = true from ?_]
      · rfl
      · rw [List.all_eq_true]
        intro st hst
        obtain ⟨k, hk⟩ := List.mem_iff_getElem?.1 hst
        exact h k st (List.getElem?_eq_some_iff.1 hk).1 hk
  generalize exitR L x = r at hr ⊢
  have ht := fun w1 (b : Below w.heap.size w w1) => rThere_any L p x.s x.p w1 (hL.below b)
  generalize hasB L x.s x.p = hb at hr ht
  have hs := fun (s i o : Int) w1 (b : Below w.heap.size w w1) => rStep_any L p s i o w1 (hL.below b)
  obtain ⟨A, cap, rfl, hlc, hcm, hA⟩ := hv
  have hm : x.over.length ≤ 9223372036854775807 := Nat.le_trans hlc hcm
  have HR := Lib.hid hr
  have HT := Lib.hid ht
  have HS := Lib.hid hs
  have HA := Lib.hid hA
  have hX := (BoxL.make (W := w) (L := L) (p := p) (n := w.heap.size) 29 rfl).below (bself (o := .cells #[.int .i64 x.s, .int .i64 x.p, .slice A x.over.length cap] 51))
  clear hr ht hs hL hlc hcm hA
  unfold Lay.val at *
  go_enter Tryd.func40, Tryd.ntmps40
  go_wp2_with fail
  obtain ⟨Y, hY⟩ : ∃ Y, Y = (w.alloc (.cells (L.cells p).toArray 29)).alloc (.cells #[.int .i64 x.s, .int .i64 x.p, .slice A x.over.length cap] 51) := ⟨_, rfl⟩
  have HB : Hid (Below w.heap.size w Y) := Lib.hid (by rw [hY]; exact bchain bself bself)
  have HX : Hid (BoxL Y w.heap.size L p) := Lib.hid (by rw [hY]; exact hX)
  have q0 : Y.cell? ⟨w.heap.size + 1, 0, none⟩ = some (.int .i64 x.s) := by rw [hY, World.cell?_alloc_at _ _ _ _ (by simp)]; rfl
  have q1 : Y.cell? ⟨w.heap.size + 1, 1, none⟩ = some (.int .i64 x.p) := by rw [hY, World.cell?_alloc_at _ _ _ _ (by simp)]; rfl
  have q2 : Y.cell? ⟨w.heap.size + 1, 2, none⟩ = some (.slice A x.over.length cap) := by rw [hY, World.cell?_alloc_at _ _ _ _ (by simp)]; rfl
  have lq : w.heap.size + 1 < Y.heap.size := by rw [hY]; simp
  have hY' : (w.alloc (.cells #[.slice p.a0 L.secs.length p.c0, .slice p.a1 L.sigs.length p.c1, .slice p.a2 L.exits.length p.c2, .slice p.a3 L.flanks.length p.c3, .int .i64 L.t0, .int .i64 L.t1, .int .i64 L.t2, .int .i64 L.t3, .int .i64 L.t4, .int .i64 L.t5, .int .i64 L.t6] 29)).alloc (.cells #[.int .i64 x.s, .int .i64 x.p, .slice A x.over.length cap] 51) = Y := hY.symm
  rw [hY']
  clear hY hY' hX
  go_loopw [5] (fun x5 wr => ∃ n : Nat, n ≤ x.over.length ∧ x5 = .int .i64 n ∧ Hid (∀ (k : Nat) (st : Stp), k < n → x.over[k]? = some st → stepB L st.s st.i st.o = true) ∧ Hid (Below Y.heap.size Y wr)) (fun x5 _ => x.over.length - (intOf x5).toNat)
  case atStart => exact ⟨0, by omega, rfl, Lib.hid (fun k st hk => absurd hk (Nat.not_lt_zero _)), Lib.hid (Below.refl _ _)⟩
  case round =>
    obtain ⟨n, hn, rfl, HJ, HBr⟩ := hrel
    obtain ⟨V, rfl⟩ : ∃ V : World, V = wr := ⟨_, rfl⟩
    have xL := HX.out.below HBr.out
    have lw := xL.1
    obtain ⟨r0, r1, r2, r3, r4, r5, r6, r7, r8, r9, r10⟩ := xL.cells
    have s0 := (HBr.out.cell (p := ⟨w.heap.size + 1, 0, none⟩) lq).trans q0
    have s1 := (HBr.out.cell (p := ⟨w.heap.size + 1, 1, none⟩) lq).trans q1
    have s2 := (HBr.out.cell (p := ⟨w.heap.size + 1, 2, none⟩) lq).trans q2
    have lq2 : w.heap.size + 1 < V.heap.size := Nat.lt_of_lt_of_le lq HBr.out.size
    have BV := Lib.hid (bchain HB.out HBr.out)
    clear xL
    by_cases hlt : n < x.over.length
    · obtain ⟨b, off, hAe, hrow⟩ := HA.out.get hlt
      subst hAe
      obtain ⟨st, hst⟩ : ∃ st, x.over[n]? = some st := ⟨x.over[n], List.getElem?_eq_getElem hlt⟩
      have hr2 := hrow.below BV.out
      have d0 : V.cell? ⟨b, off + n * 3, none⟩ = some (.int .i64 st.s) := hr2.2 n st hst 0 _ rfl
      have d1 : V.cell? ⟨b, off + n * 3 + 1, none⟩ = some (.int .i64 st.i) := hr2.2 n st hst 1 _ rfl
      have d2 : V.cell? ⟨b, off + n * 3 + 2, none⟩ = some (.int .i64 st.o) := hr2.2 n st hst 2 _ rfl
      have lb : b < V.heap.size := hr2.1
      have h3 := fun w1 hw => HS.out st.s st.i st.o w1 hw
      have hrf := HR.out.1 n st hst
      have next : stepB L st.s st.i st.o = true → Hid (∀ (k : Nat) (st : Stp), k < n + 1 → x.over[k]? = some st → stepB L st.s st.i st.o = true) := fun h => Lib.hid fun k st' hk hk' => by
        by_cases e : k = n
        · subst e
          rw [hst] at hk'
          cases hk'
          exact h
        · exact HJ.out k st' (by omega) hk'
      generalize stepN L st.s st.i st.o = sn at h3
      generalize stepB L st.s st.i st.o = sb at h3 hrf next
      have H3 := Lib.hid h3
      have NX := Lib.hid next
      clear h3 next hst hr2 hrow
      go_wp2_with fail
      refine wp_region_ext (by kernel_rfl) (by kernel_rfl) fun hx => ?_
      repeat (go_big_quiet_step ((go_at_call 80; exact Calls.ext (H3.out _ (bchain BV.out (Ext.below _))))))
      refine wpQuiet_nil ?_
      intro w5 b5
      have HB5 := Lib.hid (bchain HBr.out b5)
      clear b5
      cases sb
      · obtain rfl := hrf rfl
        go_wp2
        go_ret
        exact ⟨rfl, bchain HB.out HB5.out⟩
      · go_wp2
        go_roundw
        case rel => exact ⟨n + 1, by omega, by go_num, NX.out (by simp), HB5⟩
        case measure => simp [intOf]; omega
    obtain rfl : n = x.over.length := by omega
    obtain rfl := HR.out.2 HJ.out
    go_wp2_with fail
    (with_reducible refine (HT.out _ BV.out).mono ?_)
    rintro e w1 ⟨rfl, b1⟩
    obtain ⟨c1, f1, l1⟩ := bcell b1
    have lq3 := l1 _ lq2
    have HB1 := Lib.hid (bchain BV.out b1)
    clear b1 f1 l1
    cases hb
    · go_wp2
      go_ret
      exact ⟨by simp, HB1.out⟩
    · go_wp2
      all_goals
        go_ret
        exact ⟨ret_bool (by simp; try omega), HB1.out⟩
end Go.Proofs.YtpnnbihofoomeaaDoor

/-
  lockbarref06.flank.
-/
namespace Go.Proofs.YtpnnbihofoomeaaDoor
open Go.RowKit Go.Shelf

set_option maxRecDepth 100000 in
set_option maxHeartbeats 8000000 in
theorem rFlank_any (L : Lay) (p : Where) (f : Flk) (w : World) (hL : LayAt w p L) :
    Calls Tryd.prog 41 #[L.val p, .agg f.enc.toArray] w fun e w' => e = .returned (.bool (flankT L f)) ∧ Below w.heap.size w w' := by
  obtain ⟨s, way, pt, pos⟩ := f
  unfold Flk.enc
  have hr : flankT L ⟨s, way, pt, pos⟩ = true ↔ flankP L s way pt pos := decide_eq_true_iff
  generalize flankT L ⟨s, way, pt, pos⟩ = r at hr ⊢
  unfold flankP at hr
  have HR := Lib.hid hr
  have m0 : L.secs.length ≤ 9223372036854775807 := Nat.le_trans hL.l0.1 hL.l0.2
  have HL := Lib.hid hL
  clear hr hL
  obtain ⟨a0, a1, a2, a3, p0, p1, p2, p3⟩ := p
  unfold Lay.val
  dsimp only
  by_cases g1 : s < 0
  · have d1 : decide (s < 0) = true := decide_eq_true g1
    have e : r = false := by
      have h := HR.out
      cases r
      · rfl
      · have := of_decide_eq_true (h.1 rfl).1; omega
    subst e
    clear HR
    go_enter Tryd.func41, Tryd.ntmps41
    go_wp2
    go_ret
    exact ⟨rfl, bchain bself bself⟩
  have d1 : decide (s < 0) = false := decide_eq_false g1
  obtain ⟨n1, rfl⟩ : ∃ n : Nat, s = (n : Int) := ⟨s.toNat, by omega⟩
  by_cases g2 : L.secs.length ≤ n1
  · have d2 : decide (L.secs.length ≤ n1) = true := decide_eq_true g2
    have e : r = false := by
      have h := HR.out
      cases r
      · rfl
      · have := of_decide_eq_true (h.1 rfl).1; omega
    subst e
    clear HR
    go_enter Tryd.func41, Tryd.ntmps41
    go_wp2
    go_ret
    exact ⟨rfl, bchain bself bself⟩
  have d2 : decide (L.secs.length ≤ n1) = false := decide_eq_false g2
  by_cases g3 : pt < 0
  · have d3 : decide (pt < 0) = true := decide_eq_true g3
    have e : r = false := by
      have h := HR.out
      cases r
      · rfl
      · have := of_decide_eq_true (h.1 rfl).2.1; omega
    subst e
    clear HR
    go_enter Tryd.func41, Tryd.ntmps41
    go_wp2
    go_ret
    exact ⟨rfl, bchain bself bself⟩
  have d3 : decide (pt < 0) = false := decide_eq_false g3
  obtain ⟨n2, rfl⟩ : ∃ n : Nat, pt = (n : Int) := ⟨pt.toNat, by omega⟩
  by_cases g4 : L.secs.length ≤ n2
  · have d4 : decide (L.secs.length ≤ n2) = true := decide_eq_true g4
    have e : r = false := by
      have h := HR.out
      cases r
      · rfl
      · have := of_decide_eq_true (h.1 rfl).2.1; omega
    subst e
    clear HR
    go_enter Tryd.func41, Tryd.ntmps41
    go_wp2
    go_ret
    exact ⟨rfl, bchain bself bself⟩
  have d4 : decide (L.secs.length ≤ n2) = false := decide_eq_false g4
  by_cases g5 : n1 = n2
  · have d5 : (n1 == n2) = true := by simpa using g5
    have e : r = false := by
      have h := HR.out
      cases r
      · rfl
      · exact absurd (congrArg (Nat.cast : Nat → Int) g5) ((h.1 rfl).2.2.1)
    subst e
    clear HR
    clear d1 d2 g1 g2
    subst g5
    go_enter Tryd.func41, Tryd.ntmps41
    go_wp2
    go_ret
    exact ⟨rfl, bchain bself bself⟩
  have d5 : ((n1 : Int) == (n2 : Int)) = false := by simp; omega
  have d5' : ¬ (n1 : Int) = (n2 : Int) := by omega
  by_cases g6 : pos < 0
  · have d6 : decide (pos < 0) = true := decide_eq_true g6
    have e : r = false := by
      have h := HR.out
      cases r
      · rfl
      · have := (h.1 rfl).2.2.2.1; omega
    subst e
    clear HR
    go_enter Tryd.func41, Tryd.ntmps41
    go_wp2
    go_ret
    exact ⟨rfl, bchain bself bself⟩
  have d6 : decide (pos < 0) = false := decide_eq_false g6
  by_cases g7 : 1 < pos
  · have d7 : decide ((1 : Int) < pos) = true := decide_eq_true g7
    have e : r = false := by
      have h := HR.out
      cases r
      · rfl
      · have := (h.1 rfl).2.2.2.2.1; omega
    subst e
    clear HR
    go_enter Tryd.func41, Tryd.ntmps41
    go_wp2
    go_ret
    exact ⟨rfl, bchain bself bself⟩
  have d7 : decide ((1 : Int) < pos) = false := decide_eq_false g7
  obtain ⟨c1, hc1⟩ : ∃ c, L.secs[n1]? = some c := ⟨_, List.getElem?_eq_getElem (by omega)⟩
  obtain ⟨c2, hc2⟩ : ∃ c, L.secs[n2]? = some c := ⟨_, List.getElem?_eq_getElem (by omega)⟩
  obtain ⟨bS, off, hAe, hbS, q1⟩ := kind_cell HL.out (by omega) hc1
  obtain ⟨bS', off', hAe', _, q2⟩ := kind_cell HL.out (by omega) hc2
  dsimp only at hAe hAe'
  subst hAe
  simp only [Option.some.injEq, Addr.mk.injEq, and_true] at hAe'
  obtain ⟨rfl, rfl⟩ := hAe'
  have ek1 : secK L (n1 : Int) = c1.k := by
    unfold secK secAt
    rw [if_pos (by omega), Int.toNat_natCast, hc1]
  have ek2 : secK L (n2 : Int) = c2.k := by
    unfold secK secAt
    rw [if_pos (by omega), Int.toNat_natCast, hc2]
  have hw := fun w1 => rWays_any c1.k w1
  obtain ⟨m, hm⟩ : ∃ m, m = kMany c1.k := ⟨_, rfl⟩
  have hR := HR.out
  rw [ek1, ek2, ← hm] at hR
  rw [← hm] at hw
  generalize c1.k = k1 at q1 hw
  generalize c2.k = k2 at q2 hR
  have e : r = (decide (0 ≤ way) && (decide (way < m) && decide (k2 = 2))) := by
    rw [Bool.eq_iff_iff, hR]
    simp only [Bool.and_eq_true, decide_eq_true_eq]
    constructor
    · intro q; exact ⟨q.2.2.2.2.2.1, q.2.2.2.2.2.2.1, q.2.2.2.2.2.2.2⟩
    · intro q; exact ⟨decide_eq_true (by omega), decide_eq_true (by omega), fun e => g5 (by omega), by omega, by omega, q.1, q.2.1, q.2.2⟩
  have HW := Lib.hid hw
  have HE := Lib.hid e
  have lb1 : bS < w.heap.size + 1 := by omega
  have lb2 : bS < w.heap.size + 1 + 1 := by omega
  clear hw e hR HR ek1 ek2 hm hc1 hc2 HL
  have hcase : decide (0 ≤ way) = false ∨ (decide (0 ≤ way) = true ∧ decide (way < m) = false) ∨ (decide (0 ≤ way) = true ∧ decide (way < m) = true) := by
    cases decide (0 ≤ way) <;> cases decide (way < m) <;> simp
  rcases hcase with d8 | ⟨d8, d9⟩ | ⟨d8, d9⟩
  all_goals
    by_cases g10 : k2 = 2
    · subst g10
      go_enter Tryd.func41, Tryd.ntmps41
      go_wp2_with fail
      refine wp_region_ext (by kernel_rfl) (by kernel_rfl) fun hx => ?_
      repeat (go_big_quiet_step ((go_at_call 65; exact Calls.ext (HW.out _))))
      refine wpQuiet_nil ?_
      intro w5 b5
      go_wp2
      go_ret
      exact ⟨by rw [HE.out]; simp [*], bchain (bchain bself bself) b5⟩
    · have d10 : (k2 == 2) = false := by simpa using g10
      go_enter Tryd.func41, Tryd.ntmps41
      go_wp2_with fail
      refine wp_region_ext (by kernel_rfl) (by kernel_rfl) fun hx => ?_
      repeat (go_big_quiet_step ((go_at_call 65; exact Calls.ext (HW.out _))))
      refine wpQuiet_nil ?_
      intro w5 b5
      go_wp2
      go_ret
      exact ⟨by rw [HE.out]; simp [*], bchain (bchain bself bself) b5⟩
end Go.Proofs.YtpnnbihofoomeaaDoor

/-
  lockbarref06.Right: it answers as layout.Right.
-/
namespace Go.Proofs.YtpnnbihofoomeaaDoor
open Go.RowKit Go.Shelf

def rightR (L : Lay) : Bool := L.secs.all (secR L) && (L.sigs.all (fun x => hasB L x.s x.p) && (L.exits.all (exitR L) && (L.flanks.all (flankT L) && (sizesT L && timesT L))))
theorem jn_mem (c : Sec) (x : Prt) : ∀ i, x ∈ jn c i ↔ ∃ j, j < i ∧ 0 ≤ c.S j ∧ x = ⟨c.S j, c.P j⟩
  | 0 => by simp [jn]
  | i + 1 => by
    simp only [jn, List.mem_append, jn_mem c x i]
    constructor
    · rintro (⟨j, hj, h⟩ | h)
      · exact ⟨j, by omega, h⟩
      · split at h
        · rename_i h0
          simp only [List.mem_cons, List.not_mem_nil, or_false] at h
          exact ⟨i, by omega, h0, h⟩
        · cases h
    · rintro ⟨j, hj, h0, h⟩
      by_cases e : j = i
      · subst e
        exact .inr (by rw [if_pos h0]; simp [h])
      · exact .inl ⟨j, by omega, h0, h⟩
theorem sj_mem (xs : List Sec) (x : Prt) : ∀ n, x ∈ sj xs n ↔ ∃ k, k < n ∧ x ∈ jn (xs.getD k default) 4
  | 0 => by simp [sj]
  | n + 1 => by
    simp only [sj, List.mem_append, sj_mem xs x n]
    constructor
    · rintro (⟨k, hk, h⟩ | h)
      · exact ⟨k, by omega, h⟩
      · exact ⟨n, by omega, h⟩
    · rintro ⟨k, hk, h⟩
      by_cases e : k = n
      · subst e; exact .inr h
      · exact .inl ⟨k, by omega, h⟩
theorem portsL_mem (L : Lay) (x : Prt) : x ∈ portsL L ↔ (∃ c ∈ L.secs, ∃ j, j < 4 ∧ 0 ≤ c.S j ∧ x = ⟨c.S j, c.P j⟩) ∨ x ∈ L.sigs ∨ ∃ e ∈ L.exits, x = ⟨e.s, e.p⟩ := by
  unfold portsL
  simp only [List.mem_append, sj_mem, jn_mem, List.mem_map, exP]
  constructor
  · rintro (⟨k, hk, h⟩ | h | ⟨e, he, h⟩)
    · refine .inl ⟨_, ?_, h⟩
      rw [List.getD_eq_getElem?_getD, List.getElem?_eq_getElem hk]
      exact List.getElem_mem hk
    · exact .inr (.inl h)
    · exact .inr (.inr ⟨e, he, h.symm⟩)
  · rintro (⟨c, hc, h⟩ | h | ⟨e, he, h⟩)
    · obtain ⟨k, hk⟩ := List.mem_iff_getElem?.1 hc
      refine .inl ⟨k, (List.getElem?_eq_some_iff.1 hk).1, ?_⟩
      rw [List.getD_eq_getElem?_getD, hk]
      exact h
    · exact .inr (.inl h)
    · exact .inr (.inr ⟨e, he, h.symm⟩)
theorem jok_all (L : Lay) (c : Sec) : (jokT L c 0 = true ∧ jokT L c 1 = true ∧ jokT L c 2 = true ∧ jokT L c 3 = true) ↔ ∀ j, j < 4 → 0 ≤ c.S j → hasB L (c.S j) (c.P j) = true := by
  have key : ∀ i, jokT L c i = true ↔ (0 ≤ c.S i → hasB L (c.S i) (c.P i) = true) := fun i => by
    unfold jokT
    simp only [Bool.or_eq_true, decide_eq_true_eq]
    constructor
    · rintro (h | h)
      · intro g; omega
      · intro _; exact h
    · intro h
      by_cases g : 0 ≤ c.S i
      · exact .inr (h g)
      · exact .inl (by omega)
  simp only [key]
  constructor
  · rintro ⟨h0, h1, h2, h3⟩ j hj
    obtain rfl | rfl | rfl | rfl : j = 0 ∨ j = 1 ∨ j = 2 ∨ j = 3 := by omega
    all_goals assumption
  · intro h
    exact ⟨h 0 (by omega), h 1 (by omega), h 2 (by omega), h 3 (by omega)⟩
theorem rightR_eq (L : Lay) : rightR L = rightL L := by
  rw [Bool.eq_iff_iff]
  unfold rightR rightL portsT secR exitR overT
  simp only [Bool.and_eq_true, List.all_eq_true, decide_eq_true_eq]
  have hm : (∀ x ∈ portsL L, hasB L x.s x.p = true) ↔ (∀ c ∈ L.secs, ∀ j, j < 4 → 0 ≤ c.S j → hasB L (c.S j) (c.P j) = true) ∧ (∀ x ∈ L.sigs, hasB L x.s x.p = true) ∧ ∀ e ∈ L.exits, hasB L e.s e.p = true := by
    constructor
    · intro h
      exact ⟨fun c hc j hj h0 => h ⟨c.S j, c.P j⟩ ((portsL_mem L _).2 (.inl ⟨c, hc, j, hj, h0, rfl⟩)), fun x hx => h x ((portsL_mem L _).2 (.inr (.inl hx))), fun e he => h ⟨e.s, e.p⟩ ((portsL_mem L _).2 (.inr (.inr ⟨e, he, rfl⟩)))⟩
    · rintro ⟨h1, h2, h3⟩ x hx
      rcases (portsL_mem L x).1 hx with ⟨c, hc, j, hj, h0, rfl⟩ | h | ⟨e, he, rfl⟩
      · exact h1 c hc j hj h0
      · exact h2 x h
      · exact h3 e he
  constructor
  · rintro ⟨h1, h2, h3, h4, h5, h6⟩
    refine ⟨⟨⟨⟨⟨h5, h6⟩, fun c hc => (h1 c hc).2⟩, h4⟩, hm.2 ⟨fun c hc => (jok_all L c).1 ?_, h2, fun e he => (h3 e he).2.1⟩⟩, fun e he => ⟨(h3 e he).2.2, (h3 e he).1⟩⟩
    obtain ⟨⟨⟨⟨g0, g1⟩, g2⟩, g3⟩, _⟩ := h1 c hc
    exact ⟨g0, g1, g2, g3⟩
  · rintro ⟨⟨⟨⟨⟨h5, h6⟩, h1⟩, h4⟩, hp⟩, h3⟩
    obtain ⟨q1, q2, q3⟩ := hm.1 hp
    refine ⟨fun c hc => ?_, q2, fun e he => ⟨(h3 e he).2, q3 e he, (h3 e he).1⟩, h4, h5, h6⟩
    obtain ⟨g0, g1, g2, g3⟩ := (jok_all L c).2 (q1 c hc)
    exact ⟨⟨⟨⟨g0, g1⟩, g2⟩, g3⟩, h1 c hc⟩
theorem rightR_facts (L : Lay) : (∀ (n : Nat) (x : Sec), L.secs[n]? = some x → secR L x = false → rightR L = false) ∧ (∀ (n : Nat) (x : Prt), L.sigs[n]? = some x → hasB L x.s x.p = false → rightR L = false) ∧
    (∀ (n : Nat) (x : Ext'), L.exits[n]? = some x → exitR L x = false → rightR L = false) ∧ (∀ (n : Nat) (x : Flk), L.flanks[n]? = some x → flankT L x = false → rightR L = false) ∧
    ((∀ (j : Nat) (y : Sec), j < L.secs.length → L.secs[j]? = some y → secR L y = true) → (∀ (j : Nat) (y : Prt), j < L.sigs.length → L.sigs[j]? = some y → hasB L y.s y.p = true) → (∀ (j : Nat) (y : Ext'), j < L.exits.length → L.exits[j]? = some y → exitR L y = true) →
      (∀ (j : Nat) (y : Flk), j < L.flanks.length → L.flanks[j]? = some y → flankT L y = true) → rightR L = (sizesT L && timesT L)) := by
  have none {α : Type} {f : α → Bool} {xs : List α} {n : Nat} {x : α} (hx : xs[n]? = some x) (h : f x = false) : xs.all f = false := by
    rw [List.all_eq_false]; exact ⟨x, List.mem_of_getElem? hx, by simp [h]⟩
  have all {α : Type} {f : α → Bool} {xs : List α} (h : ∀ (j : Nat) (y : α), j < xs.length → xs[j]? = some y → f y = true) : xs.all f = true := by
    rw [List.all_eq_true]
    intro y hy
    obtain ⟨j, hj⟩ := List.mem_iff_getElem?.1 hy
    exact h j y (List.getElem?_eq_some_iff.1 hj).1 hj
  unfold rightR
  refine ⟨fun n x hx h => ?_, fun n x hx h => ?_, fun n x hx h => ?_, fun n x hx h => ?_, fun h1 h2 h3 h4 => ?_⟩
  · rw [none hx h]; rfl
  · rw [none (f := fun x : Prt => hasB L x.s x.p) hx h]; simp
  · rw [none hx h]; simp
  · rw [none hx h]; simp
  · rw [all h1, all (f := fun x : Prt => hasB L x.s x.p) h2, all h3, all h4]; rfl

set_option maxRecDepth 100000 in
set_option maxHeartbeats 16000000 in
theorem rRight_any (L : Lay) (p : Where) (w : World) (hL : LayAt w p L) :
    Calls Tryd.prog 19 #[L.val p] w fun e w' => e = .returned (.bool (rightL L)) ∧ Below w.heap.size w w' := by
  have hr := rightR_facts L
  rw [rightR_eq] at hr
  unfold sizesT at hr
  generalize rightL L = r at hr ⊢
  have h1 := fun (x : Sec) w1 (b : Below w.heap.size w w1) => rSection_any L p x w1 (hL.below b)
  have h2 := fun (s q : Int) w1 (b : Below w.heap.size w w1) => rThere_any L p s q w1 (hL.below b)
  have h3 := fun (x : Ext') (v : Value) w1 (b : Below w.heap.size w w1) (hv : Sl w 3 Stp.enc v x.over) => rExitOf_any L p x v w1 (hL.below b) (hv.below b)
  have h4 := fun (x : Flk) w1 (b : Below w.heap.size w w1) => rFlank_any L p x w1 (hL.below b)
  have h6 := fun w1 => rTimes_any L w1
  have m0 : L.secs.length ≤ 9223372036854775807 := Nat.le_trans hL.l0.1 hL.l0.2
  have m1 : L.sigs.length ≤ 9223372036854775807 := Nat.le_trans hL.l1.1 hL.l1.2
  have m2 : L.exits.length ≤ 9223372036854775807 := Nat.le_trans hL.l2.1 hL.l2.2
  have m3 : L.flanks.length ≤ 9223372036854775807 := Nat.le_trans hL.l3.1 hL.l3.2
  have hX := BoxL.make (W := w) (L := L) (p := p) (n := w.heap.size) 29 rfl
  generalize timesT L = tt at hr h6
  have HR := Lib.hid hr
  have H1 := Lib.hid h1
  have H2 := Lib.hid h2
  have H3 := Lib.hid h3
  have H4 := Lib.hid h4
  have H6 := Lib.hid h6
  have HL := Lib.hid hL
  clear hr h1 h2 h3 h4 h6 hL
  obtain ⟨a0, a1, a2, a3, p0, p1, p2, p3⟩ := p
  unfold Lay.val at *
  unfold Lay.cells at hX
  go_enter Tryd.func19, Tryd.ntmps19
  go_wp2_with fail
  obtain ⟨Y, hY⟩ : ∃ Y, Y = w.alloc (.cells #[.slice a0 L.secs.length p0, .slice a1 L.sigs.length p1, .slice a2 L.exits.length p2, .slice a3 L.flanks.length p3, .int .i64 L.t0, .int .i64 L.t1, .int .i64 L.t2, .int .i64 L.t3, .int .i64 L.t4, .int .i64 L.t5, .int .i64 L.t6] 29) := ⟨_, rfl⟩
  have HB : Hid (Below w.heap.size w Y) := Lib.hid (by rw [hY]; exact bself)
  have HX : Hid (BoxL Y w.heap.size L ⟨a0, a1, a2, a3, p0, p1, p2, p3⟩) := Lib.hid (by rw [hY]; exact hX)
  rw [← hY]
  clear hY hX
  go_loopw [3] (fun c wr => ∃ n : Nat, n ≤ L.secs.length ∧ c = .int .i64 n ∧ Hid (∀ (j : Nat) (y : Sec), j < n → L.secs[j]? = some y → secR L y = true) ∧ Hid (Below Y.heap.size Y wr)) (fun c _ => L.secs.length - (intOf c).toNat)
  case atStart => exact ⟨0, Nat.zero_le _, rfl, Lib.hid (fun j y hj => absurd hj (Nat.not_lt_zero _)), Lib.hid (Below.refl _ _)⟩
  case round =>
    obtain ⟨n0, hn, rfl, HJ, HBr⟩ := hrel
    obtain ⟨V, rfl⟩ : ∃ V : World, V = wr := ⟨_, rfl⟩
    have xL := HX.out.below HBr.out
    have lw := xL.1
    obtain ⟨r0, r1, r2, r3, r4, r5, r6, r7, r8, r9, r10⟩ := xL.cells
    have BV := Lib.hid (bchain HB.out HBr.out)
    clear xL
    by_cases hlt : n0 < L.secs.length
    · obtain ⟨b, off, hAe, hrow⟩ := HL.out.secs.get hlt
      dsimp only at hAe
      subst hAe
      obtain ⟨x, hx⟩ : ∃ x, L.secs[n0]? = some x := ⟨L.secs[n0], List.getElem?_eq_getElem hlt⟩
      obtain ⟨k0, k1, k2, k3, k4, k5, k6, k7, k8, k9, k10⟩ := sec_cells (hrow.below BV.out) hx
      have lb : b < V.heap.size := (hrow.below BV.out).1
      have h3 := fun w1 hw => H1.out x w1 hw
      unfold Sec.enc at h3
      have hrf := HR.out.1 n0 x hx
      have next : secR L x = true → Hid (∀ (j : Nat) (y : Sec), j < n0 + 1 → L.secs[j]? = some y → secR L y = true) := fun h => Lib.hid fun j y hj hy => by
        by_cases e : j = n0
        · subst e
          rw [hx] at hy
          cases hy
          exact h
        · exact HJ.out j y (by omega) hy
      generalize secR L x = sb at h3 hrf next
      have H5 := Lib.hid h3
      have NX := Lib.hid next
      clear h3 next hx hrow
      go_wp2_with fail
      refine wp_region_ext (by kernel_rfl) (by kernel_rfl) fun hx => ?_
      repeat (go_big_quiet_step ((go_at_call 38; exact Calls.ext (H5.out _ (bchain BV.out (Ext.below _))))))
      refine wpQuiet_nil ?_
      intro w5 b5
      have HB5 := Lib.hid (bchain HBr.out b5)
      clear b5
      cases sb
      · obtain rfl := hrf rfl
        go_wp2
        go_ret
        exact ⟨rfl, bchain HB.out HB5.out⟩
      · go_wp2
        go_roundw
        case rel => exact ⟨n0 + 1, by omega, by go_num, NX.out (by simp), HB5⟩
        case measure => simp [intOf]; omega
    obtain rfl : n0 = L.secs.length := by omega
    have HJ0 := HJ
    go_wp2_with fail
    clear r0 r1 r2 r3 r4 r5 r6 r7 r8 r9 r10 hlt hn lw BV HJ
    obtain ⟨V0, rfl⟩ : ∃ V0 : World, V0 = V := ⟨_, rfl⟩
    have HBs0 := HBr
    clear HBr
    go_loopw [4] (fun c wr => ∃ n : Nat, n ≤ L.sigs.length ∧ c = .int .i64 n ∧ Hid (∀ (j : Nat) (y : Prt), j < n → L.sigs[j]? = some y → hasB L y.s y.p = true) ∧ Hid (Below Y.heap.size Y wr)) (fun c _ => L.sigs.length - (intOf c).toNat)
    case atStart => exact ⟨0, Nat.zero_le _, rfl, Lib.hid (fun j y hj => absurd hj (Nat.not_lt_zero _)), HBs0⟩
    case round =>
      obtain ⟨n1, hn, rfl, HJ, HBr⟩ := hrel
      obtain ⟨V, rfl⟩ : ∃ V : World, V = wr := ⟨_, rfl⟩
      have xL := HX.out.below HBr.out
      have lw := xL.1
      obtain ⟨r0, r1, r2, r3, r4, r5, r6, r7, r8, r9, r10⟩ := xL.cells
      have BV := Lib.hid (bchain HB.out HBr.out)
      clear xL
      by_cases hlt : n1 < L.sigs.length
      · obtain ⟨b, off, hAe, hrow⟩ := HL.out.sigs.get hlt
        dsimp only at hAe
        subst hAe
        obtain ⟨x, hx⟩ : ∃ x, L.sigs[n1]? = some x := ⟨L.sigs[n1], List.getElem?_eq_getElem hlt⟩
        have k0 : V.cell? ⟨b, off + n1 * 2, none⟩ = some (.int .i64 x.s) := (hrow.below BV.out).2 n1 x hx 0 _ rfl
        have k1 : V.cell? ⟨b, off + n1 * 2 + 1, none⟩ = some (.int .i64 x.p) := (hrow.below BV.out).2 n1 x hx 1 _ rfl
        have lb : b < V.heap.size := (hrow.below BV.out).1
        have h3 := fun w1 hw => H2.out x.s x.p w1 hw
        have hrf := HR.out.2.1 n1 x hx
        have next : hasB L x.s x.p = true → Hid (∀ (j : Nat) (y : Prt), j < n1 + 1 → L.sigs[j]? = some y → hasB L y.s y.p = true) := fun h => Lib.hid fun j y hj hy => by
          by_cases e : j = n1
          · subst e
            rw [hx] at hy
            cases hy
            exact h
          · exact HJ.out j y (by omega) hy
        generalize hasB L x.s x.p = sb at h3 hrf next
        have H5 := Lib.hid h3
        have NX := Lib.hid next
        clear h3 next hx hrow
        go_wp2_with fail
        refine wp_region_ext (by kernel_rfl) (by kernel_rfl) fun hx => ?_
        repeat (go_big_quiet_step ((go_at_call 39; exact Calls.ext (H5.out _ (bchain BV.out (Ext.below _))))))
        refine wpQuiet_nil ?_
        intro w5 b5
        have HB5 := Lib.hid (bchain HBr.out b5)
        clear b5
        cases sb
        · obtain rfl := hrf rfl
          go_wp2
          go_ret
          exact ⟨rfl, bchain HB.out HB5.out⟩
        · go_wp2
          go_roundw
          case rel => exact ⟨n1 + 1, by omega, by go_num, NX.out (by simp), HB5⟩
          case measure => simp [intOf]; omega
      obtain rfl : n1 = L.sigs.length := by omega
      have HJ1 := HJ
      go_wp2_with fail
      clear r0 r1 r2 r3 r4 r5 r6 r7 r8 r9 r10 hlt hn lw BV HJ
      obtain ⟨V1, rfl⟩ : ∃ V1 : World, V1 = V := ⟨_, rfl⟩
      have HBs1 := HBr
      clear HBr
      go_loopw [5] (fun c wr => ∃ n : Nat, n ≤ L.exits.length ∧ c = .int .i64 n ∧ Hid (∀ (j : Nat) (y : Ext'), j < n → L.exits[j]? = some y → exitR L y = true) ∧ Hid (Below Y.heap.size Y wr)) (fun c _ => L.exits.length - (intOf c).toNat)
      case atStart => exact ⟨0, Nat.zero_le _, rfl, Lib.hid (fun j y hj => absurd hj (Nat.not_lt_zero _)), HBs1⟩
      case round =>
        obtain ⟨n2, hn, rfl, HJ, HBr⟩ := hrel
        obtain ⟨V, rfl⟩ : ∃ V : World, V = wr := ⟨_, rfl⟩
        have xL := HX.out.below HBr.out
        have lw := xL.1
        obtain ⟨r0, r1, r2, r3, r4, r5, r6, r7, r8, r9, r10⟩ := xL.cells
        have BV := Lib.hid (bchain HB.out HBr.out)
        clear xL
        by_cases hlt : n2 < L.exits.length
        · obtain ⟨es, hes, hAt, hSl⟩ := HL.out.exits
          have hlen : es.length = L.exits.length := by rw [← hes, List.length_map]
          obtain ⟨b, off, hAe, hrow⟩ := hAt.get (j := n2) (by omega)
          dsimp only at hAe
          subst hAe
          obtain ⟨y, hy⟩ : ∃ y, es[n2]? = some y := ⟨es[n2]'(by omega), List.getElem?_eq_getElem (by omega)⟩
          obtain ⟨x, v⟩ := y
          have hx : L.exits[n2]? = some x := by rw [← hes, List.getElem?_map, hy]; rfl
          have k0 : V.cell? ⟨b, off + n2 * 3, none⟩ = some (.int .i64 x.s) := (hrow.below BV.out).2 n2 _ hy 0 _ rfl
          have k1 : V.cell? ⟨b, off + n2 * 3 + 1, none⟩ = some (.int .i64 x.p) := (hrow.below BV.out).2 n2 _ hy 1 _ rfl
          have k2 : V.cell? ⟨b, off + n2 * 3 + 2, none⟩ = some v := (hrow.below BV.out).2 n2 _ hy 2 _ rfl
          have lb : b < V.heap.size := (hrow.below BV.out).1
          have hsl : Sl w 3 Stp.enc v x.over := hSl _ (List.mem_of_getElem? hy)
          have h3 := fun w1 hw => H3.out x v w1 hw hsl
          obtain ⟨A, cap, rfl, _, _, _⟩ := hsl
          clear hy hSl hAt hes hlen
          have hrf := HR.out.2.2.1 n2 x hx
          have next : exitR L x = true → Hid (∀ (j : Nat) (y : Ext'), j < n2 + 1 → L.exits[j]? = some y → exitR L y = true) := fun h => Lib.hid fun j y hj hy => by
            by_cases e : j = n2
            · subst e
              rw [hx] at hy
              cases hy
              exact h
            · exact HJ.out j y (by omega) hy
          generalize exitR L x = sb at h3 hrf next
          have H5 := Lib.hid h3
          have NX := Lib.hid next
          clear h3 next hx hrow
          go_wp2_with fail
          refine wp_region_ext (by kernel_rfl) (by kernel_rfl) fun hx => ?_
          repeat (go_big_quiet_step ((go_at_call 40; exact Calls.ext (H5.out _ (bchain BV.out (Ext.below _))))))
          refine wpQuiet_nil ?_
          intro w5 b5
          have HB5 := Lib.hid (bchain HBr.out b5)
          clear b5
          cases sb
          · obtain rfl := hrf rfl
            go_wp2
            go_ret
            exact ⟨rfl, bchain HB.out HB5.out⟩
          · go_wp2
            go_roundw
            case rel => exact ⟨n2 + 1, by omega, by go_num, NX.out (by simp), HB5⟩
            case measure => simp [intOf]; omega
        obtain rfl : n2 = L.exits.length := by omega
        have HJ2 := HJ
        go_wp2_with fail
        clear r0 r1 r2 r3 r4 r5 r6 r7 r8 r9 r10 hlt hn lw BV HJ
        obtain ⟨V2, rfl⟩ : ∃ V2 : World, V2 = V := ⟨_, rfl⟩
        have HBs2 := HBr
        clear HBr
        go_loopw [6] (fun c wr => ∃ n : Nat, n ≤ L.flanks.length ∧ c = .int .i64 n ∧ Hid (∀ (j : Nat) (y : Flk), j < n → L.flanks[j]? = some y → flankT L y = true) ∧ Hid (Below Y.heap.size Y wr)) (fun c _ => L.flanks.length - (intOf c).toNat)
        case atStart => exact ⟨0, Nat.zero_le _, rfl, Lib.hid (fun j y hj => absurd hj (Nat.not_lt_zero _)), HBs2⟩
        case round =>
          obtain ⟨n3, hn, rfl, HJ, HBr⟩ := hrel
          obtain ⟨V, rfl⟩ : ∃ V : World, V = wr := ⟨_, rfl⟩
          have xL := HX.out.below HBr.out
          have lw := xL.1
          obtain ⟨r0, r1, r2, r3, r4, r5, r6, r7, r8, r9, r10⟩ := xL.cells
          have BV := Lib.hid (bchain HB.out HBr.out)
          clear xL
          by_cases hlt : n3 < L.flanks.length
          · obtain ⟨b, off, hAe, hrow⟩ := HL.out.flanks.get hlt
            dsimp only at hAe
            subst hAe
            obtain ⟨x, hx⟩ : ∃ x, L.flanks[n3]? = some x := ⟨L.flanks[n3], List.getElem?_eq_getElem hlt⟩
            have k0 : V.cell? ⟨b, off + n3 * 4, none⟩ = some (.int .i64 x.s) := (hrow.below BV.out).2 n3 x hx 0 _ rfl
            have k1 : V.cell? ⟨b, off + n3 * 4 + 1, none⟩ = some (.int .i64 x.way) := (hrow.below BV.out).2 n3 x hx 1 _ rfl
            have k2 : V.cell? ⟨b, off + n3 * 4 + 2, none⟩ = some (.int .i64 x.pt) := (hrow.below BV.out).2 n3 x hx 2 _ rfl
            have k3 : V.cell? ⟨b, off + n3 * 4 + 3, none⟩ = some (.int .i64 x.pos) := (hrow.below BV.out).2 n3 x hx 3 _ rfl
            have lb : b < V.heap.size := (hrow.below BV.out).1
            have h3 := fun w1 hw => H4.out x w1 hw
            unfold Flk.enc at h3
            have hrf := HR.out.2.2.2.1 n3 x hx
            have next : flankT L x = true → Hid (∀ (j : Nat) (y : Flk), j < n3 + 1 → L.flanks[j]? = some y → flankT L y = true) := fun h => Lib.hid fun j y hj hy => by
              by_cases e : j = n3
              · subst e
                rw [hx] at hy
                cases hy
                exact h
              · exact HJ.out j y (by omega) hy
            generalize flankT L x = sb at h3 hrf next
            have H5 := Lib.hid h3
            have NX := Lib.hid next
            clear h3 next hx hrow
            go_wp2_with fail
            refine wp_region_ext (by kernel_rfl) (by kernel_rfl) fun hx => ?_
            repeat (go_big_quiet_step ((go_at_call 41; exact Calls.ext (H5.out _ (bchain BV.out (Ext.below _))))))
            refine wpQuiet_nil ?_
            intro w5 b5
            have HB5 := Lib.hid (bchain HBr.out b5)
            clear b5
            cases sb
            · obtain rfl := hrf rfl
              go_wp2
              go_ret
              exact ⟨rfl, bchain HB.out HB5.out⟩
            · go_wp2
              go_roundw
              case rel => exact ⟨n3 + 1, by omega, by go_num, NX.out (by simp), HB5⟩
              case measure => simp [intOf]; omega
          obtain rfl : n3 = L.flanks.length := by omega
          have HJ3 := HJ
          have HRV := Lib.hid (HR.out.2.2.2.2 HJ0.out HJ1.out HJ2.out HJ3.out)
          have fin : ∀ (b0 b1 b2 b3 : Bool), decide ((L.secs.length : Int) ≤ 24) = b0 → decide ((L.sigs.length : Int) ≤ 12) = b1 → decide ((L.exits.length : Int) ≤ 12) = b2 → decide ((L.flanks.length : Int) ≤ 16) = b3 →
              (decide (L.secs.length ≤ 24) && decide (L.sigs.length ≤ 12) && decide (L.exits.length ≤ 12) && decide (L.flanks.length ≤ 16) && tt) = (b0 && b1 && b2 && b3 && tt) := by
            intro b0 b1 b2 b3 e0 e1 e2 e3
            rw [← e0, ← e1, ← e2, ← e3]
            congr 1
            have c (n m : Nat) : decide ((n : Int) ≤ m) = decide (n ≤ m) := by rw [decide_eq_decide]; omega
            have c0 := c L.secs.length 24
            have c1 := c L.sigs.length 12
            have c2 := c L.exits.length 12
            have c3 := c L.flanks.length 16
            simp only [Int.cast_ofNat_Int] at c0 c1 c2 c3
            rw [c0, c1, c2, c3]
          have FIN := Lib.hid fin
          clear fin HR HJ0 HJ1 HJ2 HJ3 HJ
          cases d0 : decide ((L.secs.length : Int) ≤ 24)
          case false =>
            go_wp2
            go_ret
            exact ⟨ret_bool (by rw [HRV.out, FIN.out _ _ _ _ d0 rfl rfl rfl]; simp), BV.out⟩
          cases d1 : decide ((L.sigs.length : Int) ≤ 12)
          case false =>
            go_wp2
            go_ret
            exact ⟨ret_bool (by rw [HRV.out, FIN.out _ _ _ _ d0 d1 rfl rfl]; simp), BV.out⟩
          cases d2 : decide ((L.exits.length : Int) ≤ 12)
          case false =>
            go_wp2
            go_ret
            exact ⟨ret_bool (by rw [HRV.out, FIN.out _ _ _ _ d0 d1 d2 rfl]; simp), BV.out⟩
          cases d3 : decide ((L.flanks.length : Int) ≤ 16)
          case false =>
            go_wp2
            go_ret
            exact ⟨ret_bool (by rw [HRV.out, FIN.out _ _ _ _ d0 d1 d2 d3]; simp), BV.out⟩
          go_wp2_with fail
          (with_reducible refine (H6.out _).mono ?_)
          rintro e w1 ⟨rfl, b1⟩
          go_wp2
          go_ret
          exact ⟨ret_bool (by rw [HRV.out, FIN.out _ _ _ _ d0 d1 d2 d3]; simp), bchain BV.out b1⟩
end Go.Proofs.YtpnnbihofoomeaaDoor

/-
  Equality of sections: their arrays, within a struct.
-/
namespace Go.Proofs.YtpnnbihofoomeaaDoor
open Go.RowKit Go.Shelf

theorem stoodE_port : Tryd.prog.stoodInHeld 48 = false := by kernel_rfl
theorem infoE_port : ∃ i, Tryd.prog.info? 48 = some i := Option.isSome_iff_exists.1 (show (Tryd.prog.info? 48).isSome = true by kernel_rfl)
theorem cellsE_port : Tryd.prog.cellsOf 48 = 2 := by kernel_rfl
set_option maxRecDepth 100000 in
theorem eqlE_port (d : Nat) (x0 x1 y0 y1 : Int) (w : World) : (Op.equalIn (d + 2) 48 (.agg #[.int .i64 x0, .int .i64 x1]) (.agg #[.int .i64 y0, .int .i64 y1])).run Tryd.prog w = .ok (x0 == y0 && x1 == y1) w := by
  rw [run_equalIn_struct w (d + 1) 48 _ _ (by kernel_rfl) stoodE_port]
  by_cases h0 : x0 = y0 <;> by_cases h1 : x1 = y1 <;> simp [Op.eqFields, go_sem, Tryd.underlying48, h0, h1]
theorem cellsE_int : Tryd.prog.cellsOf 3 = 1 := by kernel_rfl
theorem infoE_int : ∃ i, Tryd.prog.info? 3 = some i := Option.isSome_iff_exists.1 (show (Tryd.prog.info? 3).isSome = true by kernel_rfl)
set_option maxRecDepth 100000 in
theorem eql_join9 (x0 x1 x2 x3 x4 x5 x6 x7 y0 y1 y2 y3 y4 y5 y6 y7 : Int) (w : World) : (Op.equalIn 9999 66 (.agg #[.int .i64 x0, .int .i64 x1, .int .i64 x2, .int .i64 x3, .int .i64 x4, .int .i64 x5, .int .i64 x6, .int .i64 x7]) (.agg #[.int .i64 y0, .int .i64 y1, .int .i64 y2, .int .i64 y3, .int .i64 y4, .int .i64 y5, .int .i64 y6, .int .i64 y7])).run Tryd.prog w =
    .ok (x0 == y0 && x1 == y1 && (x2 == y2 && x3 == y3) && (x4 == y4 && x5 == y5) && (x6 == y6 && x7 == y7)) w := by
  obtain ⟨i, hi⟩ := infoE_port
  have h := run_equalIn_array (P := Tryd.prog) (w := w) (9997 + 1) (t := 66) (e := 48) (n := 4) (i := i) #[.int .i64 x0, .int .i64 x1, .int .i64 x2, .int .i64 x3, .int .i64 x4, .int .i64 x5, .int .i64 x6, .int .i64 x7] #[.int .i64 y0, .int .i64 y1, .int .i64 y2, .int .i64 y3, .int .i64 y4, .int .i64 y5, .int .i64 y6, .int .i64 y7] Tryd.underlying66 hi
  refine h.trans ?_
  rw [cellsE_port]
  have e := fun a b c d w => eqlE_port 9996 a b c d w
  simp only [Nat.reduceAdd] at e ⊢
  simp [Op.eqItems, List.range, List.range.loop, go_sem, e]
  repeat' split
  all_goals simp_all
set_option maxRecDepth 100000 in
theorem eql_class9 (x0 x1 y0 y1 : Int) (w : World) : (Op.equalIn 9999 67 (.agg #[.int .i64 x0, .int .i64 x1]) (.agg #[.int .i64 y0, .int .i64 y1])).run Tryd.prog w = .ok (x0 == y0 && x1 == y1) w := by
  obtain ⟨i, hi⟩ := infoE_int
  have h := run_equalIn_array (P := Tryd.prog) (w := w) (9997 + 1) (t := 67) (e := 3) (n := 2) (i := i) #[.int .i64 x0, .int .i64 x1] #[.int .i64 y0, .int .i64 y1] Tryd.underlying67 hi
  refine h.trans ?_
  rw [cellsE_int]
  have e := fun a b w => run_equalIn_int (P := Tryd.prog) w 9997 3 .i64 .i64 a b Tryd.underlying3
  simp only [Nat.reduceAdd] at e ⊢
  simp [Op.eqItems, List.range, List.range.loop, go_sem, e]
  repeat' split
  all_goals simp_all
end Go.Proofs.YtpnnbihofoomeaaDoor

/-
  Equality of the structs of a layout, as one test each.
-/
namespace Go.Proofs.YtpnnbihofoomeaaDoor
open Go.RowKit Go.Shelf

attribute [local go_sem] eql_join9 eql_class9
set_option maxRecDepth 100000 in
theorem eqQ_port (x y : Prt) (w : World) : (Op.equalIn 10000 48 (.agg #[.int .i64 x.s, .int .i64 x.p]) (.agg #[.int .i64 y.s, .int .i64 y.p])).run Tryd.prog w = .ok (decide (x = y)) w := by
  obtain ⟨x0, x1⟩ := x
  obtain ⟨y0, y1⟩ := y
  rw [run_equalIn_struct w 9999 48 _ _ (by kernel_rfl) stoodE_port]
  by_cases h0 : x0 = y0 <;> by_cases h1 : x1 = y1 <;> simp [Op.eqFields, go_sem, Tryd.underlying48, h0, h1]
theorem stoodE_signal : Tryd.prog.stoodInHeld 71 = false := by kernel_rfl
theorem stoodE_step : Tryd.prog.stoodInHeld 73 = false := by kernel_rfl
theorem stoodE_flank : Tryd.prog.stoodInHeld 75 = false := by kernel_rfl
theorem stoodE_sec : Tryd.prog.stoodInHeld 69 = false := by kernel_rfl
set_option maxRecDepth 100000 in
theorem eqQ_signal (x y : Prt) (w : World) : (Op.equalIn 10000 71 (.agg #[.int .i64 x.s, .int .i64 x.p]) (.agg #[.int .i64 y.s, .int .i64 y.p])).run Tryd.prog w = .ok (decide (x = y)) w := by
  obtain ⟨x0, x1⟩ := x
  obtain ⟨y0, y1⟩ := y
  rw [run_equalIn_struct w 9999 71 _ _ (by kernel_rfl) stoodE_signal]
  by_cases h0 : x0 = y0 <;> by_cases h1 : x1 = y1 <;> simp [Op.eqFields, go_sem, Tryd.underlying71, Tryd.underlying48, h0, h1]
set_option maxRecDepth 100000 in
theorem eqQ_step (x y : Stp) (w : World) : (Op.equalIn 10000 73 (.agg #[.int .i64 x.s, .int .i64 x.i, .int .i64 x.o]) (.agg #[.int .i64 y.s, .int .i64 y.i, .int .i64 y.o])).run Tryd.prog w = .ok (decide (x = y)) w := by
  obtain ⟨x0, x1, x2⟩ := x
  obtain ⟨y0, y1, y2⟩ := y
  rw [run_equalIn_struct w 9999 73 _ _ (by kernel_rfl) stoodE_step]
  by_cases h0 : x0 = y0 <;> by_cases h1 : x1 = y1 <;> by_cases h2 : x2 = y2 <;> simp [Op.eqFields, go_sem, Tryd.underlying73, h0, h1, h2]
set_option maxRecDepth 100000 in
theorem eqQ_flank (x y : Flk) (w : World) : (Op.equalIn 10000 75 (.agg #[.int .i64 x.s, .int .i64 x.way, .int .i64 x.pt, .int .i64 x.pos]) (.agg #[.int .i64 y.s, .int .i64 y.way, .int .i64 y.pt, .int .i64 y.pos])).run Tryd.prog w = .ok (decide (x = y)) w := by
  obtain ⟨x0, x1, x2, x3⟩ := x
  obtain ⟨y0, y1, y2, y3⟩ := y
  rw [run_equalIn_struct w 9999 75 _ _ (by kernel_rfl) stoodE_flank]
  by_cases h0 : x0 = y0 <;> by_cases h1 : x1 = y1 <;> by_cases h2 : x2 = y2 <;> by_cases h3 : x3 = y3 <;> simp [Op.eqFields, go_sem, Tryd.underlying75, h0, h1, h2, h3]
set_option maxRecDepth 100000 in
theorem eqQ_sec (x y : Sec) (w : World) : (Op.equalIn 10000 69 (.agg #[.int .u8 x.k, .int .i64 x.s0, .int .i64 x.p0, .int .i64 x.s1, .int .i64 x.p1, .int .i64 x.s2, .int .i64 x.p2, .int .i64 x.s3, .int .i64 x.p3, .int .i64 x.c0, .int .i64 x.c1]) (.agg #[.int .u8 y.k, .int .i64 y.s0, .int .i64 y.p0, .int .i64 y.s1, .int .i64 y.p1, .int .i64 y.s2, .int .i64 y.p2, .int .i64 y.s3, .int .i64 y.p3, .int .i64 y.c0, .int .i64 y.c1])).run Tryd.prog w = .ok (decide (x = y)) w := by
  obtain ⟨xk, a0, a1, a2, a3, a4, a5, a6, a7, a8, a9⟩ := x
  obtain ⟨yk, b0, b1, b2, b3, b4, b5, b6, b7, b8, b9⟩ := y
  rw [run_equalIn_struct w 9999 69 _ _ (by kernel_rfl) stoodE_sec]
  by_cases h0 : xk = yk
  · by_cases h1 : (a0 = b0 ∧ a1 = b1) ∧ (a2 = b2 ∧ a3 = b3) ∧ (a4 = b4 ∧ a5 = b5) ∧ (a6 = b6 ∧ a7 = b7)
    · obtain ⟨⟨rfl, rfl⟩, ⟨rfl, rfl⟩, ⟨rfl, rfl⟩, ⟨rfl, rfl⟩⟩ := h1
      by_cases h2 : a8 = b8 <;> by_cases h3 : a9 = b9 <;> simp [Op.eqFields, go_sem, Tryd.underlying69, h0, h2, h3]
    · have e : (a0 == b0 && a1 == b1 && (a2 == b2 && a3 == b3) && (a4 == b4 && a5 == b5) && (a6 == b6 && a7 == b7)) = false := by
        rw [Bool.eq_false_iff]
        simp only [ne_eq, Bool.and_eq_true, beq_iff_eq]
        omega
      have d : ¬ ((⟨xk, a0, a1, a2, a3, a4, a5, a6, a7, a8, a9⟩ : Sec) = ⟨yk, b0, b1, b2, b3, b4, b5, b6, b7, b8, b9⟩) := by
        simp only [Sec.mk.injEq]
        omega
      rw [decide_eq_false d]
      simp [Op.eqFields, go_sem, Tryd.underlying69, h0, -Bool.and_eq_true, e]
      try (simp only [Bool.and_eq_true, beq_iff_eq] at *; omega)
  · simp [Op.eqFields, go_sem, Tryd.underlying69, h0]
end Go.Proofs.YtpnnbihofoomeaaDoor

/-
  slices.Equal, slices.EqualFunc at the structs of a layout; layout.Same.
-/
namespace Go.Proofs.YtpnnbihofoomeaaDoor
open Go.RowKit Go.Shelf

theorem eq_of_all {α : Type} {xs ys : List α} (hl : xs.length = ys.length) (h : ∀ (j : Nat), j < xs.length → xs[j]? = ys[j]?) : xs = ys := by
  apply List.ext_getElem? 
  intro j
  by_cases hj : j < xs.length
  · exact h j hj
  · rw [List.getElem?_eq_none (by omega), List.getElem?_eq_none (by omega)]

/-- A comparison: whether f tells the same of both. -/
def PB2 {α β : Type} [DecidableEq β] (g : Nat) (lb : Array Value) (enc : α → List Value) (f : α → β) (xs ys : List α) (w : World) : Prop :=
  ∀ (W : World) (x y : α), x ∈ xs → y ∈ ys → Below w.heap.size w W → Calls Tryd.prog g (#[.agg (enc x).toArray, .agg (enc y).toArray] ++ lb) W fun e w' => e = .returned (.bool (decide (f x = f y))) ∧ Below W.heap.size W w'
theorem map_eq_of {α β : Type} {f : α → β} {xs ys : List α} (hl : xs.length = ys.length) (h : ∀ (j : Nat) x y, j < xs.length → xs[j]? = some x → ys[j]? = some y → f x = f y) : xs.map f = ys.map f := by
  refine eq_of_all (by simpa using hl) (fun j hj => ?_)
  rw [List.length_map] at hj
  have hj' : j < ys.length := by omega
  rw [List.getElem?_map, List.getElem?_map, List.getElem?_eq_getElem hj, List.getElem?_eq_getElem hj']
  exact congrArg some (h j _ _ hj (List.getElem?_eq_getElem hj) (List.getElem?_eq_getElem hj'))
theorem map_ne_of {α β : Type} {f : α → β} {xs ys : List α} {j : Nat} {x y : α} (hx : xs[j]? = some x) (hy : ys[j]? = some y) (h : ¬ f x = f y) : ¬ xs.map f = ys.map f := by
  intro e
  have := congrArg (fun l => l[j]?) e
  simp only [List.getElem?_map, hx, hy, Option.map_some, Option.some.injEq] at this
  exact h this

theorem stood_port : Tryd.prog.stoodInHeld 48 = false := by kernel_rfl
theorem info_port : ∃ i, Tryd.prog.info? 48 = some i := Option.isSome_iff_exists.1 (show (Tryd.prog.info? 48).isSome = true by kernel_rfl)
theorem cells_port : Tryd.prog.cellsOf 48 = 2 := by kernel_rfl
set_option maxRecDepth 100000 in
theorem eql_port (d : Nat) (x0 x1 y0 y1 : Int) (w : World) : (Op.equalIn (d + 2) 48 (.agg #[.int .i64 x0, .int .i64 x1]) (.agg #[.int .i64 y0, .int .i64 y1])).run Tryd.prog w = .ok (x0 == y0 && x1 == y1) w := by
  rw [run_equalIn_struct w (d + 1) 48 _ _ (by kernel_rfl) stood_port]
  by_cases h0 : x0 = y0 <;> by_cases h1 : x1 = y1 <;> simp [Op.eqFields, go_sem, Tryd.underlying48, h0, h1]
set_option maxRecDepth 100000 in
theorem eql_join (x0 x1 x2 x3 x4 x5 x6 x7 y0 y1 y2 y3 y4 y5 y6 y7 : Int) (w : World) : (Op.equalIn 10000 66 (.agg #[.int .i64 x0, .int .i64 x1, .int .i64 x2, .int .i64 x3, .int .i64 x4, .int .i64 x5, .int .i64 x6, .int .i64 x7]) (.agg #[.int .i64 y0, .int .i64 y1, .int .i64 y2, .int .i64 y3, .int .i64 y4, .int .i64 y5, .int .i64 y6, .int .i64 y7])).run Tryd.prog w = .ok ((x0 == y0 && x1 == y1) && ((x2 == y2 && x3 == y3) && ((x4 == y4 && x5 == y5) && (x6 == y6 && x7 == y7)))) w := by
  obtain ⟨i, hi⟩ := info_port
  have h := run_equalIn_array (P := Tryd.prog) (w := w) (9998 + 1) (t := 66) (e := 48) (n := 4) (i := i) #[.int .i64 x0, .int .i64 x1, .int .i64 x2, .int .i64 x3, .int .i64 x4, .int .i64 x5, .int .i64 x6, .int .i64 x7] #[.int .i64 y0, .int .i64 y1, .int .i64 y2, .int .i64 y3, .int .i64 y4, .int .i64 y5, .int .i64 y6, .int .i64 y7] Tryd.underlying66 hi
  refine h.trans ?_
  rw [cells_port]
  have e := fun a b c d w => eql_port 9997 a b c d w
  simp only [Nat.reduceAdd] at e ⊢
  simp [Op.eqItems, List.range, List.range.loop, go_sem, e]
  repeat' split
  all_goals simp_all
theorem cells_int : Tryd.prog.cellsOf 3 = 1 := by kernel_rfl
theorem info_int' : ∃ i, Tryd.prog.info? 3 = some i := Option.isSome_iff_exists.1 (show (Tryd.prog.info? 3).isSome = true by kernel_rfl)
set_option maxRecDepth 100000 in
theorem eql_class (x0 x1 y0 y1 : Int) (w : World) : (Op.equalIn 10000 67 (.agg #[.int .i64 x0, .int .i64 x1]) (.agg #[.int .i64 y0, .int .i64 y1])).run Tryd.prog w = .ok (x0 == y0 && x1 == y1) w := by
  obtain ⟨i, hi⟩ := info_int'
  have h := run_equalIn_array (P := Tryd.prog) (w := w) (9998 + 1) (t := 67) (e := 3) (n := 2) (i := i) #[.int .i64 x0, .int .i64 x1] #[.int .i64 y0, .int .i64 y1] Tryd.underlying67 hi
  refine h.trans ?_
  rw [cells_int]
  have e := fun a b w => run_equalIn_int (P := Tryd.prog) w 9998 3 .i64 .i64 a b Tryd.underlying3
  simp only [Nat.reduceAdd] at e ⊢
  simp [Op.eqItems, List.range, List.range.loop, go_sem, e]
  repeat' split
  all_goals simp_all
attribute [local go_sem] eql_join eql_class

end Go.Proofs.YtpnnbihofoomeaaDoor

/-
  layout.Same.
-/
namespace Go.Proofs.YtpnnbihofoomeaaDoor
open Go.RowKit Go.Shelf

def sameL (L M : Lay) : Bool := decide (L.times = M.times) && decide (L.secs = M.secs) && decide (L.sigs = M.sigs) && decide (L.flanks = M.flanks) && decide (L.exits = M.exits)

end Go.Proofs.YtpnnbihofoomeaaDoor
