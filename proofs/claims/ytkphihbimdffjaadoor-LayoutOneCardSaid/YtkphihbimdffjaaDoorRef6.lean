/-
  lockbarref05.May, Right.
-/
import Derived.Test.YtkphihbimdffjaaDoorBoxes
import Derived.Test.YtkphihbimdffjaaDoorLay4
import Derived.Deep.DeepCutAuto
namespace Go.Proofs.YtkphihbimdffjaaDoor
open Go.RowKit Go.Shelf

set_option maxHeartbeats 2000000 in
theorem rMay_any (s q : Int) (w : World) :
    Calls Tryd.prog 74 #[.agg #[.int .i64 s, .int .i64 q]] w fun e w' => e = .returned (.bool (mayT s q)) ∧ Below w.heap.size w w' := by
  have hr : (s = -1 ∧ q = 0 → mayT s q = true) ∧ (¬ (s = -1 ∧ q = 0) → mayT s q = (decide (0 ≤ s) && decide (s < 24) && decide (0 ≤ q) && decide (q ≤ 3))) := by
    unfold mayT
    refine ⟨?_, fun h => ?_⟩
    · rintro ⟨rfl, rfl⟩; rfl
    · rw [show (s == -1 && q == 0) = false by simp; omega, Bool.false_or]
  generalize mayT s q = r at hr ⊢
  by_cases h : s = -1 ∧ q = 0
  · obtain rfl := hr.1 h
    obtain ⟨rfl, rfl⟩ := h
    clear hr
    go_enter Tryd.func74, Tryd.ntmps74
    go_wp2
    go_ret
    exact ⟨rfl, bself⟩
  · obtain rfl := hr.2 h
    clear hr
    have h' : ¬ s = -1 ∨ (s = -1 ∧ ¬ q = 0) := by omega
    clear h
    rcases h' with h | ⟨rfl, h⟩
    · by_cases h0 : 0 ≤ s
      · have d0 : decide (0 ≤ s) = true := decide_eq_true h0
        by_cases h1 : s < 24
        · have d1 : decide (s < 24) = true := decide_eq_true h1
          by_cases h2 : 0 ≤ q
          · have d2 : decide (0 ≤ q) = true := decide_eq_true h2
            have e : decide (q ≤ 3) = decide (q < 4) := by rw [decide_eq_decide]; omega
            rw [d0, d1, d2, e]
            go_enter Tryd.func74, Tryd.ntmps74
            go_wp2
            all_goals
              go_ret
              exact ⟨by simp [*], bself⟩
          · have d2 : decide (0 ≤ q) = false := decide_eq_false h2
            rw [d0, d1, d2]
            go_enter Tryd.func74, Tryd.ntmps74
            go_wp2
            all_goals
              go_ret
              exact ⟨rfl, bself⟩
        · have d1 : decide (s < 24) = false := decide_eq_false h1
          rw [d0, d1]
          go_enter Tryd.func74, Tryd.ntmps74
          go_wp2
          all_goals
            go_ret
            exact ⟨rfl, bself⟩
      · have d0 : decide (0 ≤ s) = false := decide_eq_false h0
        rw [d0]
        go_enter Tryd.func74, Tryd.ntmps74
        go_wp2
        all_goals
          go_ret
          exact ⟨rfl, bself⟩
    · go_enter Tryd.func74, Tryd.ntmps74
      go_wp2
      all_goals
        go_ret
        exact ⟨rfl, bself⟩

theorem kPorts_nn (k : Int) : 0 ≤ kPorts k := by
  rcases kCases k with ⟨_, h, _⟩ | ⟨_, h, _⟩ | ⟨_, h, _⟩ | ⟨_, _, _, h, _⟩ <;> omega
theorem rightT_facts (c : Sec) : (∀ i, i < 4 → portT c i = false → rightT c = false) ∧ (∀ i, i < 2 → classT c i = false → rightT c = false) ∧
    ((∀ i, i < 4 → portT c i = true) → (∀ i, i < 2 → classT c i = true) → rightT c = decide (0 < kPorts c.k)) := by
  have e : (kPorts c.k != 0) = decide (0 < kPorts c.k) := by
    have := kPorts_nn c.k
    rw [Bool.eq_iff_iff]
    simp
    omega
  unfold rightT
  refine ⟨fun i hi h => ?_, fun i hi h => ?_, fun h g => ?_⟩
  · obtain rfl | rfl | rfl | rfl : i = 0 ∨ i = 1 ∨ i = 2 ∨ i = 3 := by omega
    all_goals simp [h]
  · obtain rfl | rfl : i = 0 ∨ i = 1 := by omega
    all_goals simp [h]
  · rw [h 0 (by omega), h 1 (by omega), h 2 (by omega), h 3 (by omega), g 0 (by omega), g 1 (by omega), e]
    simp

set_option maxRecDepth 100000 in
set_option maxHeartbeats 8000000 in
theorem rRight5_any (c : Sec) (w : World) :
    Calls Tryd.prog 72 #[.agg c.enc.toArray] w fun e w' => e = .returned (.bool (rightT c)) ∧ Below w.heap.size w w' := by
  have hr := rightT_facts c
  generalize rightT c = r at hr ⊢
  have hp := fun w1 => rPorts_any c.k w1
  have hw := fun w1 => rWays_any c.k w1
  have hpt : ∀ i, portT c i = if (i : Int) < kPorts c.k then mayT (c.S i) (c.P i) else (c.S i == -1 && c.P i == 0) := fun _ => rfl
  have hct : ∀ i, classT c i = (decide (0 ≤ c.C i) && decide (c.C i ≤ 3) && (decide (c.C i ≤ 0) || decide ((i : Int) < kMany c.k))) := fun _ => rfl
  obtain ⟨np, hnp⟩ : ∃ np, np = kPorts c.k := ⟨_, rfl⟩
  obtain ⟨nm, hnm⟩ : ∃ nm, nm = kMany c.k := ⟨_, rfl⟩
  rw [← hnp] at hp hr hpt
  rw [← hnm] at hw hct
  have HR := Lib.hid hr
  have HP := Lib.hid hp
  have HW := Lib.hid hw
  have HPT := Lib.hid hpt
  have HCT := Lib.hid hct
  clear hr hp hw hpt hct hnp hnm
  have hS := BoxS.make w c
  unfold Sec.enc at hS
  unfold Sec.enc
  go_enter Tryd.func72, Tryd.ntmps72
  go_wp2_with fail
  obtain ⟨Y, hY⟩ : ∃ Y, Y = w.alloc (.cells #[.int .u8 c.k, .int .i64 c.s0, .int .i64 c.p0, .int .i64 c.s1, .int .i64 c.p1, .int .i64 c.s2, .int .i64 c.p2, .int .i64 c.s3, .int .i64 c.p3, .int .i64 c.c0, .int .i64 c.c1] 39) := ⟨_, rfl⟩
  have HB : Hid (Below w.heap.size w Y) := Lib.hid (by rw [hY]; exact bself)
  have HS : Hid (BoxS Y w.heap.size c) := Lib.hid (by rw [hY]; exact hS)
  rw [← hY]
  clear hY hS
  go_loopw [3] (fun x3 wr => ∃ n : Nat, n ≤ 4 ∧ x3 = .int .i64 n ∧ Hid (∀ j, j < n → portT c j = true) ∧ Hid (Below Y.heap.size Y wr)) (fun x3 _ => 4 - (intOf x3).toNat)
  case atStart => exact ⟨0, by omega, rfl, Lib.hid (fun j hj => absurd hj (Nat.not_lt_zero _)), Lib.hid (Below.refl _ _)⟩
  case round =>
    obtain ⟨n, hn, rfl, HJ, HBr⟩ := hrel
    obtain ⟨V, rfl⟩ : ∃ V : World, V = wr := ⟨_, rfl⟩
    by_cases hn4 : n < 4
    · have xS := HS.out.below HBr.out
      have k0 := xS.cells.1
      obtain ⟨cS, cP⟩ := xS.ports n hn4
      have lg := xS.1
      have hpn := HPT.out n
      have hrf := HR.out.1 n hn4
      generalize c.S n = sn at cS cP hpn
      generalize c.P n = pn at cP hpn
      have hm := fun w1 => rMay_any sn pn w1
      obtain ⟨pt, hpte⟩ : ∃ pt, pt = portT c n := ⟨_, rfl⟩
      rw [← hpte] at hpn hrf
      have next : pt = true → Hid (∀ j, j < n + 1 → portT c j = true) := fun h => Lib.hid fun j hj => by
        by_cases e : j = n
        · subst e; rw [← hpte]; exact h
        · exact HJ.out j (by omega)
      have NX := Lib.hid next
      clear hpte xS next
      have hn3 : (n : Int) < 4 := by omega
      by_cases hlt : (n : Int) < np
      · rw [if_pos hlt] at hpn
        have d0 : decide ((n : Int) < np) = true := decide_eq_true hlt
        have d1 : decide (np ≤ (n : Int)) = false := decide_eq_false (by omega)
        rw [← hpn] at hm
        have HM := Lib.hid hm
        clear hm hpn
        go_wp2_with fail
        (with_reducible refine (HP.out _).mono ?_)
        rintro e w1 ⟨rfl, b1⟩
        obtain ⟨c1, f1, l1⟩ := bcell b1
        have lg1 := l1 _ lg
        go_wp2_with fail
        (with_reducible refine (HM.out _).mono ?_)
        rintro e w2 ⟨rfl, b2⟩
        obtain ⟨c2, f2, l2⟩ := bcell b2
        have lg2 := l2 _ lg1
        have HB2 := Lib.hid (bchain (bchain HBr.out b1) b2)
        clear b1 b2 f1 l1 f2 l2
        cases pt
        · obtain rfl := hrf rfl
          go_wp2
          go_ret
          exact ⟨rfl, bchain HB.out HB2.out⟩
        · go_wp2_with fail
          (with_reducible refine (HP.out _).mono ?_)
          rintro e w3 ⟨rfl, b3⟩
          have HB3 := Lib.hid (bchain HB2.out b3)
          clear b3
          go_wp2
          go_roundw
          case rel => exact ⟨n + 1, by omega, by go_num, NX.out (by simp), HB3⟩
          case measure => simp [intOf]; omega
      · rw [if_neg hlt] at hpn
        have d0 : decide ((n : Int) < np) = false := decide_eq_false hlt
        have d1 : decide (np ≤ (n : Int)) = true := decide_eq_true (by omega)
        clear hm
        go_wp2_with fail
        (with_reducible refine (HP.out _).mono ?_)
        rintro e w1 ⟨rfl, b1⟩
        obtain ⟨c1, f1, l1⟩ := bcell b1
        have lg1 := l1 _ lg
        go_wp2_with fail
        (with_reducible refine (HP.out _).mono ?_)
        rintro e w2 ⟨rfl, b2⟩
        obtain ⟨c2, f2, l2⟩ := bcell b2
        have lg2 := l2 _ lg1
        have HB2 := Lib.hid (bchain (bchain HBr.out b1) b2)
        clear b1 b2 f1 l1 f2 l2
        by_cases h1 : sn = -1
        · subst h1
          by_cases h2 : pn = 0
          · subst h2
            have ht : pt = true := hpn
            subst ht
            clear hpn hrf
            go_wp2
            go_roundw
            case rel => exact ⟨n + 1, by omega, by go_num, NX.out (by simp), HB2⟩
            case measure => simp [intOf]; omega
          · have ht : pt = false := by rw [hpn]; simp [h2]
            obtain rfl := hrf ht
            clear hpn hrf ht
            go_wp2
            go_ret
            exact ⟨rfl, bchain HB.out HB2.out⟩
        · have ht : pt = false := by rw [hpn]; simp [h1]
          obtain rfl := hrf ht
          clear hpn hrf ht
          go_wp2
          go_ret
          exact ⟨rfl, bchain HB.out HB2.out⟩
    have HJ4 : Hid (∀ j, j < 4 → portT c j = true) := Lib.hid fun j hj => HJ.out j (by omega)
    have d4 : decide ((n : Int) < 4) = false := decide_eq_false (by omega)
    clear hn HJ
    go_wp2_with fail
    clear hn4 d4
    go_loopw [4] (fun x4 wr => ∃ m : Nat, m ≤ 2 ∧ x4 = .int .i64 m ∧ Hid (∀ j, j < m → classT c j = true) ∧ Hid (Below Y.heap.size Y wr)) (fun x4 _ => 2 - (intOf x4).toNat)
    case atStart => exact ⟨0, by omega, rfl, Lib.hid (fun j hj => absurd hj (Nat.not_lt_zero _)), HBr⟩
    case round =>
      obtain ⟨m, hm, rfl, HC, HBm⟩ := hrel
      obtain ⟨U, rfl⟩ : ∃ U : World, U = wr := ⟨_, rfl⟩
      have xS := HS.out.below HBm.out
      have k0 := xS.cells.1
      have lg := xS.1
      by_cases hm2 : m < 2
      · have kc := xS.classes m hm2
        have hct := HCT.out m
        have hrf := HR.out.2.1 m hm2
        generalize c.C m = cm at kc hct
        obtain ⟨ct, hcte⟩ : ∃ ct, ct = classT c m := ⟨_, rfl⟩
        rw [← hcte] at hct hrf
        have next : ct = true → Hid (∀ j, j < m + 1 → classT c j = true) := fun h => Lib.hid fun j hj => by
          by_cases e : j = m
          · subst e; rw [← hcte]; exact h
          · exact HC.out j (by omega)
        have NX := Lib.hid next
        clear hcte xS next
        have hm3 : (m : Int) < 2 := by omega
        by_cases a0 : 0 ≤ cm
        · have d0 : decide (cm < 0) = false := decide_eq_false (by omega)
          by_cases a1 : cm ≤ 3
          · have d1 : decide (3 < cm) = false := decide_eq_false (by omega)
            by_cases a2 : (m : Int) < nm
            · have d2 : decide (nm ≤ (m : Int)) = false := decide_eq_false (by omega)
              have ht : ct = true := by rw [hct]; simp [a0, a1, a2]
              subst ht
              clear hct hrf
              go_wp2_with fail
              (with_reducible refine (HW.out _).mono ?_)
              rintro e w1 ⟨rfl, b1⟩
              have HB1 := Lib.hid (bchain HBm.out b1)
              clear b1
              go_wp2
              go_roundw
              case rel => exact ⟨m + 1, by omega, by go_num, NX.out (by simp), HB1⟩
              case measure => simp [intOf]; omega
            · have d2 : decide (nm ≤ (m : Int)) = true := decide_eq_true (by omega)
              go_wp2_with fail
              (with_reducible refine (HW.out _).mono ?_)
              rintro e w1 ⟨rfl, b1⟩
              obtain ⟨c1, f1, l1⟩ := bcell b1
              have lg1 := l1 _ lg
              have HB1 := Lib.hid (bchain HBm.out b1)
              clear b1 f1 l1
              by_cases a3 : cm = 0
              · subst a3
                have ht : ct = true := by rw [hct]; simp
                subst ht
                clear hct hrf
                go_wp2
                go_roundw
                case rel => exact ⟨m + 1, by omega, by go_num, NX.out (by simp), HB1⟩
                case measure => simp [intOf]; omega
              · have ht : ct = false := by rw [hct]; simp; omega
                obtain rfl := hrf ht
                have d3 : (cm == 0) = false := by simpa using a3
                clear hct hrf ht
                go_wp2
                go_ret
                exact ⟨rfl, bchain HB.out HB1.out⟩
          · have d1 : decide (3 < cm) = true := decide_eq_true (by omega)
            have ht : ct = false := by rw [hct]; simp [a1]
            obtain rfl := hrf ht
            clear hct hrf ht
            go_wp2
            go_ret
            exact ⟨rfl, bchain HB.out HBm.out⟩
        · have d0 : decide (cm < 0) = true := decide_eq_true (by omega)
          have ht : ct = false := by rw [hct]; simp [a0]
          obtain rfl := hrf ht
          clear hct hrf ht
          go_wp2
          go_ret
          exact ⟨rfl, bchain HB.out HBm.out⟩
      obtain rfl : m = 2 := by omega
      obtain rfl := HR.out.2.2 HJ4.out HC.out
      clear hm2 hm
      go_wp2_with fail
      (with_reducible refine (HP.out _).mono ?_)
      rintro e w1 ⟨rfl, b1⟩
      go_wp2
      go_ret
      exact ⟨rfl, bchain (bchain HB.out HBm.out) b1⟩
end Go.Proofs.YtkphihbimdffjaaDoor
