/-
  The walk of PortSections.
-/
import Derived.Test.YtaajbhdmnbabhaaDoorPort6
import Derived.Deep.DeepCutAuto
import Derived.IntWalk
namespace Go.Proofs.YtaajbhdmnbabhaaDoor
open Go.RowKit Go.Shelf

/-- What is fine of a section, as far as it has been looked at. -/
def fine1 (k : Int) (S P : Nat → Int) (n : Nat) : Prop := kPorts k ≠ 0 ∧ ∀ j, j < n → portFine k S P j
def fine2 (k : Int) (S P C : Nat → Int) (n : Nat) : Prop := kPorts k ≠ 0 ∧ (∀ j, j < 4 → portFine k S P j) ∧ ∀ j, j < n → classFine k C j
theorem fine1_next {k : Int} {S P : Nat → Int} {n : Nat} : fine1 k S P (n + 1) ↔ fine1 k S P n ∧ portFine k S P n := by
  unfold fine1
  constructor
  · rintro ⟨h, g⟩
    exact ⟨⟨h, fun j hj => g j (by omega)⟩, g n (by omega)⟩
  · rintro ⟨⟨h, g⟩, f⟩
    refine ⟨h, fun j hj => ?_⟩
    by_cases e : j = n
    · subst e; exact f
    · exact g j (by omega)
theorem fine2_next {k : Int} {S P C : Nat → Int} {n : Nat} : fine2 k S P C (n + 1) ↔ fine2 k S P C n ∧ classFine k C n := by
  unfold fine2
  constructor
  · rintro ⟨h, g, f⟩
    exact ⟨⟨h, g, fun j hj => f j (by omega)⟩, f n (by omega)⟩
  · rintro ⟨⟨h, g, f⟩, e⟩
    refine ⟨h, g, fun j hj => ?_⟩
    by_cases q : j = n
    · subst q; exact e
    · exact f j (by omega)
theorem fine2_zero {k : Int} {S P C : Nat → Int} : fine2 k S P C 0 ↔ fine1 k S P 4 :=
  ⟨fun h => ⟨h.1, h.2.1⟩, fun h => ⟨h.1, h.2, fun j hj => by omega⟩⟩
theorem portFine_iff {k : Int} {S P : Nat → Int} {n : Nat} : portFine k S P n ↔ ((S n = -1 ∧ P n = 0) ∨ ((n : Int) < kPorts k ∧ 0 ≤ S n ∧ S n < 24 ∧ 0 ≤ P n ∧ P n < 4)) := by
  unfold portFine mayB
  split
  · rw [decide_eq_true_iff]
    omega
  · omega
theorem classFine_iff {k : Int} {C : Nat → Int} {n : Nat} : classFine k C n ↔ (0 ≤ C n ∧ C n ≤ 3 ∧ ((n : Int) < kMany k ∨ C n = 0)) := by
  unfold classFine
  omega

theorem and_small (x : Int) (m : Nat) (hm : m < 1000) : ∃ n : Nat, bits .and .i64 x m = (n : Int) ∧ n ≤ m := by
  refine ⟨(BitVec.ofInt 64 x).toNat &&& (BitVec.ofInt 64 (m : Int)).toNat, ?_, ?_⟩
  · unfold bits
    dsimp only
    rw [BitVec.toNat_and]
    have h : (BitVec.ofInt 64 x).toNat &&& (BitVec.ofInt 64 (m : Int)).toNat ≤ (BitVec.ofInt 64 (m : Int)).toNat := Nat.and_le_right
    have h2 : (BitVec.ofInt 64 (m : Int)).toNat = m := by simp; omega
    rw [h2] at h
    show IntKind.i64.wrap _ = _
    simp only [IntKind.bits]
    rw [h2]
    exact IntWalk.i64_in _ (by omega)
  · refine Nat.le_trans Nat.and_le_right ?_
    simp
    omega
theorem right_turned {k : Int} {S P C S' P' C' : Nat → Int} {x y cl : Int} {n1 n2 : Nat} (l1 : n1 < 4) (l2 : n2 < 2) (h : rightP k S P C) (hS : ∀ j, S' j = if j = n1 then x else S j) (hP : ∀ j, P' j = if j = n1 then y else P j) (hC : ∀ j, C' j = if j = n2 then cl else C j) :
    rightP k S' P' C' ↔ ((x = -1 ∧ y = 0) ∨ ((n1 : Int) < kPorts k ∧ 0 ≤ x ∧ x < 24 ∧ 0 ≤ y ∧ y < 4)) ∧ 0 ≤ cl ∧ cl ≤ 3 ∧ ((n2 : Int) < kMany k ∨ cl = 0) := by
  have e1 : portFine k S' P' n1 ↔ ((x = -1 ∧ y = 0) ∨ ((n1 : Int) < kPorts k ∧ 0 ≤ x ∧ x < 24 ∧ 0 ≤ y ∧ y < 4)) := by rw [portFine_iff, hS, hP, if_pos rfl, if_pos rfl]
  have e2 : classFine k C' n2 ↔ (0 ≤ cl ∧ cl ≤ 3 ∧ ((n2 : Int) < kMany k ∨ cl = 0)) := by rw [classFine_iff, hC, if_pos rfl]
  rw [← e1, ← e2]
  constructor
  · rintro ⟨_, g, f⟩
    exact ⟨g n1 l1, f n2 l2⟩
  · rintro ⟨g, f⟩
    refine ⟨h.1, fun i hi => ?_, fun i hi => ?_⟩
    · by_cases e : i = n1
      · subst e; exact g
      · have := h.2.1 i hi
        rw [portFine_iff] at this ⊢
        rwa [hS, hP, if_neg e, if_neg e]
    · by_cases e : i = n2
      · subst e; exact f
      · have := h.2.2 i hi
        rw [classFine_iff] at this ⊢
        rwa [hC, if_neg e]
theorem bool_of {m b : Bool} {p : Prop} (h : m = true ↔ p) (g : b = true ↔ p) : Value.bool b = Value.bool m := by
  rw [Bool.eq_iff_iff.2 (g.trans h.symm)]

set_option maxRecDepth 100000 in
set_option maxHeartbeats 40000000 in
theorem portSections_walk (k : Int) (S P C : Nat → Int) (x y cl at' : Int) (h0 : 0 ≤ k) (h1 : k ≤ 255) (w : World) (K : Kinds w) :
    Calls Tryd.prog 6 #[secV k S P C, .agg #[.int .i64 x, .int .i64 y], .int .i64 cl, .int .i64 at'] w fun e w' => e = .returned (.bool true) ∧ Below w.heap.size w w' := by
  have hp := fun w1 (K1 : Kinds w1) => ports_any k h0 h1 w1 K1
  have hm := fun w1 (K1 : Kinds w1) => ways_any k h0 h1 w1 K1
  obtain ⟨np, hnp⟩ : ∃ np, np = kPorts k := ⟨_, rfl⟩
  obtain ⟨nm, hnm⟩ : ∃ nm, nm = kMany k := ⟨_, rfl⟩
  rw [← hnp] at hp
  rw [← hnm] at hm
  have HP := Lib.hid hp
  have HM := Lib.hid hm
  have HN := Lib.hid (⟨hnp, hnm⟩ : _ ∧ _)
  have KH := Lib.hid K
  have hkn : (1 ≤ k ∧ k ≤ 3) ↔ fine1 k S P 0 := by
    unfold fine1
    rcases kCases k with ⟨r, p, _⟩ | ⟨r, p, _⟩ | ⟨r, p, _⟩ | ⟨_, _, _, p, _⟩ <;> rw [p] <;> constructor <;> intro h <;> first | omega | exact ⟨by decide, fun j hj => by omega⟩ | exact absurd rfl h.1
  have HK := Lib.hid hkn
  clear hp hm hnp hnm K hkn
  unfold secV
  go_enter Tryd.func6, Tryd.ntmps6
  go_upto_region 1 with fail
  obtain ⟨W, hW⟩ : ∃ W, W = (w.alloc (.cells #[.int .u8 k, .int .i64 (S 0), .int .i64 (P 0), .int .i64 (S 1), .int .i64 (P 1), .int .i64 (S 2), .int .i64 (P 2), .int .i64 (S 3), .int .i64 (P 3), .int .i64 (C 0), .int .i64 (C 1)] 41)).alloc (.cells #[.int .i64 x, .int .i64 y] 37) := ⟨_, rfl⟩
  have B : Below w.heap.size w W := by rw [hW]; exact bchain bself bself
  have lW : W.heap.size = w.heap.size + 2 := by rw [hW]; simp
  have c0 : W.cell? ⟨w.heap.size, 0, none⟩ = some (.int .u8 k) := by rw [hW]; simp [go_sem]
  have cS : ∀ n, n < 4 → W.cell? ⟨w.heap.size, 1 + n * 2, none⟩ = some (.int .i64 (S n)) := by
    intro n hn
    rw [hW]
    have : n = 0 ∨ n = 1 ∨ n = 2 ∨ n = 3 := by omega
    rcases this with rfl | rfl | rfl | rfl <;> simp [go_sem]
  have cP : ∀ n, n < 4 → W.cell? ⟨w.heap.size, 1 + n * 2 + 1, none⟩ = some (.int .i64 (P n)) := by
    intro n hn
    rw [hW]
    have : n = 0 ∨ n = 1 ∨ n = 2 ∨ n = 3 := by omega
    rcases this with rfl | rfl | rfl | rfl <;> simp [go_sem]
  have cC : ∀ n, n < 2 → W.cell? ⟨w.heap.size, 9 + n, none⟩ = some (.int .i64 (C n)) := by
    intro n hn
    rw [hW]
    have : n = 0 ∨ n = 1 := by omega
    rcases this with rfl | rfl <;> simp [go_sem]
  have d0 : W.cell? ⟨w.heap.size + 1, 0, none⟩ = some (.int .i64 x) := by rw [hW]; simp [go_sem]
  have d1 : W.cell? ⟨w.heap.size + 1, 1, none⟩ = some (.int .i64 y) := by rw [hW]; simp [go_sem]
  rw [← hW]
  have HC := Lib.hid (⟨c0, cS, cP, cC, d0, d1⟩ : _ ∧ _ ∧ _ ∧ _ ∧ _ ∧ _)
  clear hW cS cP cC d0 d1
  have lw : w.heap.size < W.heap.size := by omega
  go_cut [9] (fun s9 w' => ∃ f : Bool, s9 = .bool f ∧ Hid (f = true ↔ fine1 k S P 0) ∧ w' = W)
  case first =>
    go_wp2
    all_goals
      go_meet
      refine ⟨_, rfl, Lib.hid ?_, rfl⟩
      rw [← HK.out]
      first | (simp; omega) | omega
  case rest =>
    obtain ⟨f, rfl, HF, rfl⟩ := hcut
    go_wp2_with fail
    refine wp_region_ext (by kernel_rfl) (by kernel_rfl) fun hx => ?_
    repeat (go_big_quiet_step (first | (go_at_call 8; exact Calls.ext (HP.out _ (KH.out.below (bchain B (Ext.below _))))) | (go_at_call 9; exact Calls.ext (HM.out _ (KH.out.below (bchain B (Ext.below _)))))))
    refine wpQuiet_nil ?_
    intro W2 b2
    have B2 := bchain B b2
    have l2 : w.heap.size < W2.heap.size := Nat.lt_of_lt_of_le lw b2.size
    have l3 : w.heap.size + 1 < W2.heap.size := by have := b2.size; omega
    have HD := Lib.hid (⟨fun (o : Nat) => b2.cell (p := ⟨w.heap.size, o, none⟩) lw, fun (o : Nat) => b2.cell (p := ⟨w.heap.size + 1, o, none⟩) (by dsimp only; omega)⟩ : _ ∧ _)
    clear hx b2
    go_wp2_with fail
    go_loopg [9, 12] 4 (fun g s9 s12 wr => ∃ (n : Nat) (f : Bool), n ≤ 4 ∧ 4 - n ≤ g ∧ s12 = .int .i64 n ∧ s9 = .bool f ∧ Hid (f = true ↔ fine1 k S P n) ∧ Hid (Below W2.heap.size W2 wr))
    case atStart => exact ⟨0, f, by omega, by omega, rfl, rfl, HF, Lib.hid (Below.refl _ _)⟩
    case round =>
      clear HF
      clear f
      obtain ⟨n, f, hn, hg, rfl, rfl, HF, HB⟩ := hrel
      have lr : w.heap.size < wr.heap.size := Nat.lt_of_lt_of_le l2 HB.out.size
      by_cases hlt : n < 4
      · have a1 : wr.cell? ⟨w.heap.size, 1 + n * 2, none⟩ = some (.int .i64 (S n)) := (HB.out.cell (p := ⟨w.heap.size, 1 + n * 2, none⟩) l2).trans ((HD.out.1 _).trans (HC.out.2.1 n hlt))
        have a2 : wr.cell? ⟨w.heap.size, 1 + n * 2 + 1, none⟩ = some (.int .i64 (P n)) := (HB.out.cell (p := ⟨w.heap.size, 1 + n * 2 + 1, none⟩) l2).trans ((HD.out.1 _).trans (HC.out.2.2.1 n hlt))
        obtain ⟨s, hs⟩ : ∃ s, s = S n := ⟨_, rfl⟩
        obtain ⟨p, hp⟩ : ∃ p, p = P n := ⟨_, rfl⟩
        rw [← hs] at a1
        rw [← hp] at a2
        have HSP := Lib.hid (⟨hs, hp⟩ : _ ∧ _)
        clear hs hp
        go_upto_region 7 with fail
        obtain ⟨Y, hY⟩ : ∃ Y, Y = wr.alloc (.cells #[.int .i64 s, .int .i64 p] 37) := ⟨_, rfl⟩
        have y0 : Y.cell? ⟨wr.heap.size, 0, none⟩ = some (.int .i64 s) := by rw [hY]; simp [go_sem]
        have y1 : Y.cell? ⟨wr.heap.size, 1, none⟩ = some (.int .i64 p) := by rw [hY]; simp [go_sem]
        have hBY : Below W2.heap.size W2 Y := by rw [hY]; exact bchain HB.out bself
        have HBY := Lib.hid hBY
        rw [← hY]
        clear hY hBY a1 a2
        go_cut [14] (fun s14 w' => ∃ e : Bool, s14 = .bool e ∧ Hid (e = true ↔ (s = -1 ∧ p = 0)) ∧ w' = Y)
        case first =>
          go_wp2
          all_goals
            go_meet
            refine ⟨_, rfl, Lib.hid ?_, rfl⟩
            first | (simp; omega) | omega
        case rest =>
          obtain ⟨e, rfl, HE, rfl⟩ := hcut
          have next : ∀ f' : Bool, (f' = true ↔ (f = true ∧ (e = true ∨ ((n : Int) < np ∧ 0 ≤ s ∧ s < 24 ∧ 0 ≤ p ∧ p < 4)))) → Hid (f' = true ↔ fine1 k S P (n + 1)) := fun f' h => Lib.hid (by
            rw [fine1_next, portFine_iff, ← HSP.out.1, ← HSP.out.2, ← HN.out.1, ← HE.out, ← HF.out]
            exact h)
          clear HE HSP HF HB
          have HX := Lib.hid next
          clear next
          cases f with
          | false =>
            go_wp2
            go_roundg (4 - (n + 1))
            case measure => omega
            case rel => exact ⟨n + 1, _, by omega, by omega, by go_num, rfl, HX.out _ (by simp), HBY⟩
          | true =>
            cases e with
            | true =>
              go_wp2
              go_roundg (4 - (n + 1))
              case measure => omega
              case rel => exact ⟨n + 1, _, by omega, by omega, by go_num, rfl, HX.out _ (by simp), HBY⟩
            | false =>
              go_wp2
              all_goals
                go_roundg (4 - (n + 1))
                case measure => omega
                case rel => exact ⟨n + 1, _, by omega, by omega, by go_num, rfl, HX.out _ (by simp; omega), HBY⟩
      · obtain rfl : n = 4 := by omega
        go_wp2_with fail
        go_loopg [9, 15] 2 (fun g s9 s15 wr => ∃ (n : Nat) (f : Bool), n ≤ 2 ∧ 2 - n ≤ g ∧ s15 = .int .i64 n ∧ s9 = .bool f ∧ Hid (f = true ↔ fine2 k S P C n) ∧ Hid (Below W2.heap.size W2 wr))
        case atStart => exact ⟨0, f, by omega, by omega, rfl, rfl, Lib.hid (HF.out.trans fine2_zero.symm), HB⟩
        case round =>
          obtain ⟨n2, f2, hn2, hg2, rfl, rfl, HF2, HB2⟩ := hrel
          clear HF HB lr hlt hg hn
          clear f
          have lr : w.heap.size < wr.heap.size := Nat.lt_of_lt_of_le l2 HB2.out.size
          by_cases hlt : n2 < 2
          · have a1 : wr.cell? ⟨w.heap.size, 9 + n2, none⟩ = some (.int .i64 (C n2)) := (HB2.out.cell (p := ⟨w.heap.size, 9 + n2, none⟩) l2).trans ((HD.out.1 _).trans (HC.out.2.2.2.1 n2 hlt))
            obtain ⟨s, hs⟩ : ∃ s, s = C n2 := ⟨_, rfl⟩
            rw [← hs] at a1
            have next : ∀ f' : Bool, (f' = true ↔ (f2 = true ∧ (0 ≤ s ∧ s ≤ 3 ∧ ((n2 : Int) < nm ∨ s = 0)))) → Hid (f' = true ↔ fine2 k S P C (n2 + 1)) := fun f' h => Lib.hid (by
              rw [fine2_next, classFine_iff, ← hs, ← HN.out.2, ← HF2.out]
              exact h)
            clear hs HF2
            have HX := Lib.hid next
            clear next
            cases f2 with
            | false =>
              go_wp2
              go_roundg (2 - (n2 + 1))
              case measure => omega
              case rel => exact ⟨n2 + 1, _, by omega, by omega, by go_num, rfl, HX.out _ (by simp), HB2⟩
            | true =>
              go_wp2
              all_goals
                go_roundg (2 - (n2 + 1))
                case measure => omega
                case rel => exact ⟨n2 + 1, _, by omega, by omega, by go_num, rfl, HX.out _ (by simp; omega), HB2⟩
          · obtain rfl : n2 = 2 := by omega
            have hf : f2 = rightB k S P C := by
              have h : f2 = true ↔ rightP k S P C := HF2.out
              by_cases r : rightP k S P C
              · rw [rightB_true r, h.2 r]
              · rw [rightB_false r]
                cases f2 with
                | false => rfl
                | true => exact absurd (h.1 rfl) r
            have hr := fun w1 (K1 : Kinds w1) => right_any k S P C h0 h1 w1 K1
            unfold secV at hr
            rw [← hf] at hr
            have HR := Lib.hid hr
            have HG : Hid (f2 = true ↔ rightP k S P C) := Lib.hid HF2.out
            clear hf hr HF2
            have e0 := (HB2.out.cell (p := ⟨w.heap.size, 0, none⟩) l2).trans ((HD.out.1 _).trans HC.out.1)
            have e1 := (HB2.out.cell (p := ⟨w.heap.size, 1, none⟩) l2).trans ((HD.out.1 _).trans (HC.out.2.1 0 (by decide)))
            have e2 := (HB2.out.cell (p := ⟨w.heap.size, 2, none⟩) l2).trans ((HD.out.1 _).trans (HC.out.2.2.1 0 (by decide)))
            have e3 := (HB2.out.cell (p := ⟨w.heap.size, 3, none⟩) l2).trans ((HD.out.1 _).trans (HC.out.2.1 1 (by decide)))
            have e4 := (HB2.out.cell (p := ⟨w.heap.size, 4, none⟩) l2).trans ((HD.out.1 _).trans (HC.out.2.2.1 1 (by decide)))
            have e5 := (HB2.out.cell (p := ⟨w.heap.size, 5, none⟩) l2).trans ((HD.out.1 _).trans (HC.out.2.1 2 (by decide)))
            have e6 := (HB2.out.cell (p := ⟨w.heap.size, 6, none⟩) l2).trans ((HD.out.1 _).trans (HC.out.2.2.1 2 (by decide)))
            have e7 := (HB2.out.cell (p := ⟨w.heap.size, 7, none⟩) l2).trans ((HD.out.1 _).trans (HC.out.2.1 3 (by decide)))
            have e8 := (HB2.out.cell (p := ⟨w.heap.size, 8, none⟩) l2).trans ((HD.out.1 _).trans (HC.out.2.2.1 3 (by decide)))
            have e9 := (HB2.out.cell (p := ⟨w.heap.size, 9, none⟩) l2).trans ((HD.out.1 _).trans (HC.out.2.2.2.1 0 (by decide)))
            have e10 := (HB2.out.cell (p := ⟨w.heap.size, 10, none⟩) l2).trans ((HD.out.1 _).trans (HC.out.2.2.2.1 1 (by decide)))
            have x0 := (HB2.out.cell (p := ⟨w.heap.size + 1, 0, none⟩) l3).trans ((HD.out.2 _).trans HC.out.2.2.2.2.1)
            have x1 := (HB2.out.cell (p := ⟨w.heap.size + 1, 1, none⟩) l3).trans ((HD.out.2 _).trans HC.out.2.2.2.2.2)
            have lr1 : w.heap.size + 1 < wr.heap.size := Nat.lt_of_lt_of_le l3 HB2.out.size
            have HE := Lib.hid (⟨e0, e1, e2, e3, e4, e5, e6, e7, e8, e9, e10, x0, x1⟩ : _ ∧ _ ∧ _ ∧ _ ∧ _ ∧ _ ∧ _ ∧ _ ∧ _ ∧ _ ∧ _ ∧ _ ∧ _)
            have HBr := Lib.hid (bchain B2 HB2.out)
            clear HD HC HB2 hlt
            go_wp2_with fail
            (with_reducible refine (HR.out _ (KH.out.below HBr.out)).mono ?_)
            rintro e W3 ⟨rfl, b3⟩
            have lr2 : w.heap.size < W3.heap.size := Nat.lt_of_lt_of_le lr b3.size
            have lr3 : w.heap.size + 1 < W3.heap.size := Nat.lt_of_lt_of_le lr1 b3.size
            have e0 := (b3.cell (p := ⟨w.heap.size, 0, none⟩) lr).trans HE.out.1
            have e1 := (b3.cell (p := ⟨w.heap.size, 1, none⟩) lr).trans HE.out.2.1
            have e2 := (b3.cell (p := ⟨w.heap.size, 2, none⟩) lr).trans HE.out.2.2.1
            have e3 := (b3.cell (p := ⟨w.heap.size, 3, none⟩) lr).trans HE.out.2.2.2.1
            have e4 := (b3.cell (p := ⟨w.heap.size, 4, none⟩) lr).trans HE.out.2.2.2.2.1
            have e5 := (b3.cell (p := ⟨w.heap.size, 5, none⟩) lr).trans HE.out.2.2.2.2.2.1
            have e6 := (b3.cell (p := ⟨w.heap.size, 6, none⟩) lr).trans HE.out.2.2.2.2.2.2.1
            have e7 := (b3.cell (p := ⟨w.heap.size, 7, none⟩) lr).trans HE.out.2.2.2.2.2.2.2.1
            have e8 := (b3.cell (p := ⟨w.heap.size, 8, none⟩) lr).trans HE.out.2.2.2.2.2.2.2.2.1
            have e9 := (b3.cell (p := ⟨w.heap.size, 9, none⟩) lr).trans HE.out.2.2.2.2.2.2.2.2.2.1
            have e10 := (b3.cell (p := ⟨w.heap.size, 10, none⟩) lr).trans HE.out.2.2.2.2.2.2.2.2.2.2.1
            have x0 := (b3.cell (p := ⟨w.heap.size + 1, 0, none⟩) lr1).trans HE.out.2.2.2.2.2.2.2.2.2.2.2.1
            have x1 := (b3.cell (p := ⟨w.heap.size + 1, 1, none⟩) lr1).trans HE.out.2.2.2.2.2.2.2.2.2.2.2.2
            have HB3 := Lib.hid (bchain HBr.out b3)
            have HX := Lib.hid (⟨x0, x1⟩ : _ ∧ _)
            clear b3 HE
            obtain ⟨n1, hn1, ln1⟩ : ∃ n1 : Nat, bits .and .i64 at' 3 = (n1 : Int) ∧ n1 < 4 := by
              obtain ⟨n, h, l⟩ := and_small at' 3 (by decide)
              exact ⟨n, h, by omega⟩
            obtain ⟨n2, hn2, ln2⟩ : ∃ n2 : Nat, bits .and .i64 (at' / 4) 1 = (n2 : Int) ∧ n2 < 2 := by
              obtain ⟨n, h, l⟩ := and_small (at' / 4) 1 (by decide)
              exact ⟨n, h, by omega⟩
            have H1 := Lib.hid (⟨hn1, hn2⟩ : _ ∧ _)
            go_upto_region 16 with fail
            clear e0 e1 e2 e3 e4 e5 e6 e7 e8 e9 e10
            go_cut [] (fun w' => ∃ (S' P' : Nat → Int), Hid ((∀ j, S' j = if j = n1 then x else S j) ∧ (∀ j, P' j = if j = n1 then y else P j)) ∧ w' = W3.alloc (.cells #[.int .u8 k, .int .i64 (S' 0), .int .i64 (P' 0), .int .i64 (S' 1), .int .i64 (P' 1), .int .i64 (S' 2), .int .i64 (P' 2), .int .i64 (S' 3), .int .i64 (P' 3), .int .i64 (C 0), .int .i64 (C 1)] 41))
            case first =>
              have cs1 : n1 = 0 ∨ n1 = 1 ∨ n1 = 2 ∨ n1 = 3 := by omega
              rcases cs1 with rfl | rfl | rfl | rfl
              all_goals
                go_upto_region 17 with fail
                go_meet
                exact ⟨_, _, Lib.hid ⟨fun _ => rfl, fun _ => rfl⟩, rfl⟩
            case rest =>
              obtain ⟨S', P', HS, rfl⟩ := hcut
              go_upto_region 17 with fail
              go_cut [] (fun w' => ∃ (C' : Nat → Int), Hid (∀ j, C' j = if j = n2 then cl else C j) ∧ w' = W3.alloc (.cells #[.int .u8 k, .int .i64 (S' 0), .int .i64 (P' 0), .int .i64 (S' 1), .int .i64 (P' 1), .int .i64 (S' 2), .int .i64 (P' 2), .int .i64 (S' 3), .int .i64 (P' 3), .int .i64 (C' 0), .int .i64 (C' 1)] 41))
              case first =>
                have cs2 : n2 = 0 ∨ n2 = 1 := by omega
                rcases cs2 with rfl | rfl
                all_goals
                  go_upto_region 18 with fail
                  go_meet
                  exact ⟨fun j => if j = _ then cl else C j, Lib.hid (fun _ => rfl), rfl⟩
              case rest =>
                obtain ⟨C', HC', rfl⟩ := hcut
                obtain ⟨m, hm⟩ : ∃ m, m = mayB x y := ⟨_, rfl⟩
                have hmi : m = true ↔ ((x = -1 ∧ y = 0) ∨ (0 ≤ x ∧ x < 24 ∧ 0 ≤ y ∧ y < 4)) := by rw [hm]; unfold mayB; rw [decide_eq_true_iff]; omega
                have hmay := fun w1 (K1 : Kinds w1) => may_any x y w1 K1
                rw [← hm] at hmay
                have HMY := Lib.hid hmay
                have HMI := Lib.hid hmi
                clear hm hmi hmay
                go_upto_region 18 with fail
                obtain ⟨Y, hY⟩ : ∃ Y, Y = W3.alloc (.cells #[.int .u8 k, .int .i64 (S' 0), .int .i64 (P' 0), .int .i64 (S' 1), .int .i64 (P' 1), .int .i64 (S' 2), .int .i64 (P' 2), .int .i64 (S' 3), .int .i64 (P' 3), .int .i64 (C' 0), .int .i64 (C' 1)] 41) := ⟨_, rfl⟩
                have y0 : Y.cell? ⟨w.heap.size + 1, 0, none⟩ = some (.int .i64 x) := by rw [hY]; simp [go_sem, lr3, x0]
                have y1 : Y.cell? ⟨w.heap.size + 1, 1, none⟩ = some (.int .i64 y) := by rw [hY]; simp [go_sem, lr3, x1]
                have ly : w.heap.size + 1 < Y.heap.size := by rw [hY]; simp; omega
                have lz : W3.heap.size < Y.heap.size := by rw [hY]; simp
                have HZ : Hid (∀ o v, (#[Value.int .u8 k, .int .i64 (S' 0), .int .i64 (P' 0), .int .i64 (S' 1), .int .i64 (P' 1), .int .i64 (S' 2), .int .i64 (P' 2), .int .i64 (S' 3), .int .i64 (P' 3), .int .i64 (C' 0), .int .i64 (C' 1)])[o]? = some v → Y.cell? ⟨W3.heap.size, o, none⟩ = some v) := Lib.hid (by
                  intro o v hv
                  rw [hY]
                  simpa [go_sem] using hv)
                have HBY := Lib.hid (show Below w.heap.size w Y by rw [hY]; exact bchain HB3.out bself)
                rw [← hY]
                clear hY x0 x1
                go_cut [17] (fun s17 w' => s17 = .bool m ∧ w' = Y)
                case first =>
                  as_aux_lemma =>
                  cases h1 : (x == -1)
                  · cases h2 : (y == 0)
                    all_goals
                      go_wp2
                      all_goals
                        go_meet
                        refine ⟨bool_of HMI.out ?_, rfl⟩
                        simp at h1 h2 ⊢
                        omega
                  · cases h2 : (y == 0)
                    all_goals
                      go_wp2
                      all_goals
                        go_meet
                        refine ⟨bool_of HMI.out ?_, rfl⟩
                        simp at h1 h2 ⊢
                        omega
                case rest =>
                  obtain ⟨rfl, rfl⟩ := hcut
                  go_wp2_with fail
                  (with_reducible refine (HMY.out _ (KH.out.below HBY.out)).mono ?_)
                  rintro e W4 ⟨rfl, b4⟩
                  have HB4 := Lib.hid (bchain HBY.out b4)
                  have u0 := (b4.cell (p := ⟨w.heap.size + 1, 0, none⟩) ly).trans y0
                  have u1 := (b4.cell (p := ⟨w.heap.size + 1, 1, none⟩) ly).trans y1
                  have v0 := (b4.cell (p := ⟨W3.heap.size, 0, none⟩) lz).trans (HZ.out 0 _ rfl)
                  have v1 := (b4.cell (p := ⟨W3.heap.size, 1, none⟩) lz).trans (HZ.out 1 _ rfl)
                  have v2 := (b4.cell (p := ⟨W3.heap.size, 2, none⟩) lz).trans (HZ.out 2 _ rfl)
                  have v3 := (b4.cell (p := ⟨W3.heap.size, 3, none⟩) lz).trans (HZ.out 3 _ rfl)
                  have v4 := (b4.cell (p := ⟨W3.heap.size, 4, none⟩) lz).trans (HZ.out 4 _ rfl)
                  have v5 := (b4.cell (p := ⟨W3.heap.size, 5, none⟩) lz).trans (HZ.out 5 _ rfl)
                  have v6 := (b4.cell (p := ⟨W3.heap.size, 6, none⟩) lz).trans (HZ.out 6 _ rfl)
                  have v7 := (b4.cell (p := ⟨W3.heap.size, 7, none⟩) lz).trans (HZ.out 7 _ rfl)
                  have v8 := (b4.cell (p := ⟨W3.heap.size, 8, none⟩) lz).trans (HZ.out 8 _ rfl)
                  have v9 := (b4.cell (p := ⟨W3.heap.size, 9, none⟩) lz).trans (HZ.out 9 _ rfl)
                  have v10 := (b4.cell (p := ⟨W3.heap.size, 10, none⟩) lz).trans (HZ.out 10 _ rfl)
                  have lu : w.heap.size + 1 < W4.heap.size := Nat.lt_of_lt_of_le ly b4.size
                  have lv : W3.heap.size < W4.heap.size := Nat.lt_of_lt_of_le lz b4.size
                  clear b4 HZ y0 y1 ly lz
                  go_wp2_with fail
                  have hr2 := fun w1 (K1 : Kinds w1) => right_any k S' P' C' h0 h1 w1 K1
                  unfold secV at hr2
                  obtain ⟨q, hq⟩ : ∃ q, q = rightB k S' P' C' := ⟨_, rfl⟩
                  rw [← hq] at hr2
                  have HR2 := Lib.hid hr2
                  have HQ := Lib.hid hq
                  clear hr2 hq
                  cases f2 with
                  | false =>
                    as_aux_lemma =>
                    refine wp_region_ext (by kernel_rfl) (by kernel_rfl) fun hx => ?_
                    repeat (go_big_quiet_step ((go_at_call 12; exact Calls.ext (wakes5_any _ (KH.out.below (bchain HB4.out (Ext.below _)))))))
                    refine wpQuiet_nil ?_
                    intro w5 b5
                    go_wp2
                    go_ret
                    exact ⟨rfl, bchain HB4.out b5⟩
                  | true =>
                    have hq2 : q = true ↔ ((x = -1 ∧ y = 0) ∨ (m = true ∧ (n1 : Int) < np)) ∧ 0 ≤ cl ∧ cl ≤ 3 ∧ ((n2 : Int) < nm ∨ cl = 0) := by
                      have r := right_turned (x := x) (y := y) (cl := cl) ln1 ln2 (HG.out.1 rfl) HS.out.1 HS.out.2 HC'.out
                      have r2 : q = true ↔ rightP k S' P' C' := by
                        rw [HQ.out]
                        by_cases z : rightP k S' P' C'
                        · rw [rightB_true z]; exact ⟨fun _ => z, fun _ => rfl⟩
                        · rw [rightB_false z]; exact ⟨fun e => (by cases e), fun e => absurd e z⟩
                      rw [r2, r, HMI.out, HN.out.1, HN.out.2]
                      exact ⟨fun ⟨g, h⟩ => ⟨by omega, h⟩, fun ⟨g, h⟩ => ⟨by omega, h⟩⟩
                    have HQ2 := Lib.hid hq2
                    clear hq2
                    by_cases a1 : x = -1
                    · by_cases a2 : y = 0
                      · by_cases c1 : 0 ≤ cl
                        · by_cases c2 : cl ≤ 3
                          · by_cases c3 : (n2 : Int) < nm
                            · have c1t : decide (0 ≤ cl) = true := decide_eq_true c1
                              have c2t : decide (cl ≤ 3) = true := decide_eq_true c2
                              have c3t : decide ((n2 : Int) < nm) = true := decide_eq_true c3
                              as_aux_lemma =>
                              have hqv : q = true := by
                                have hq := HQ2.out
                                cases q
                                · simp at hq
                                  omega
                                · rfl
                              subst hqv
                              refine wp_region_ext (by kernel_rfl) (by kernel_rfl) fun hx => ?_
                              repeat (go_big_quiet_step (first | (go_at_call 15; exact Calls.ext (HR2.out _ (KH.out.below (bchain HB4.out (Ext.below _))))) | (go_at_call 12; exact Calls.ext (wakes5_any _ (KH.out.below (bchain HB4.out (Ext.below _)))))))
                              refine wpQuiet_nil ?_
                              intro w5 b5
                              go_wp2
                              go_ret
                              exact ⟨rfl, bchain HB4.out b5⟩
                            · by_cases c4 : cl = 0
                              · have c1t : decide (0 ≤ cl) = true := decide_eq_true c1
                                have c2t : decide (cl ≤ 3) = true := decide_eq_true c2
                                have c3t : decide ((n2 : Int) < nm) = false := decide_eq_false c3
                                as_aux_lemma =>
                                have hqv : q = true := by
                                  have hq := HQ2.out
                                  cases q
                                  · simp at hq
                                    omega
                                  · rfl
                                subst hqv
                                refine wp_region_ext (by kernel_rfl) (by kernel_rfl) fun hx => ?_
                                repeat (go_big_quiet_step (first | (go_at_call 15; exact Calls.ext (HR2.out _ (KH.out.below (bchain HB4.out (Ext.below _))))) | (go_at_call 12; exact Calls.ext (wakes5_any _ (KH.out.below (bchain HB4.out (Ext.below _)))))))
                                refine wpQuiet_nil ?_
                                intro w5 b5
                                go_wp2
                                go_ret
                                exact ⟨rfl, bchain HB4.out b5⟩
                              · have c1t : decide (0 ≤ cl) = true := decide_eq_true c1
                                have c2t : decide (cl ≤ 3) = true := decide_eq_true c2
                                have c3t : decide ((n2 : Int) < nm) = false := decide_eq_false c3
                                have c4t : (cl == 0) = false := by simpa using c4
                                as_aux_lemma =>
                                have hqv : q = false := by
                                  have hq := HQ2.out
                                  cases q
                                  · rfl
                                  · simp at hq
                                    omega
                                subst hqv
                                refine wp_region_ext (by kernel_rfl) (by kernel_rfl) fun hx => ?_
                                repeat (go_big_quiet_step (first | (go_at_call 15; exact Calls.ext (HR2.out _ (KH.out.below (bchain HB4.out (Ext.below _))))) | (go_at_call 12; exact Calls.ext (wakes5_any _ (KH.out.below (bchain HB4.out (Ext.below _)))))))
                                refine wpQuiet_nil ?_
                                intro w5 b5
                                go_wp2
                                go_ret
                                exact ⟨rfl, bchain HB4.out b5⟩
                          · have c1t : decide (0 ≤ cl) = true := decide_eq_true c1
                            have c2t : decide (cl ≤ 3) = false := decide_eq_false c2
                            as_aux_lemma =>
                            have hqv : q = false := by
                              have hq := HQ2.out
                              cases q
                              · rfl
                              · simp at hq
                                omega
                            subst hqv
                            refine wp_region_ext (by kernel_rfl) (by kernel_rfl) fun hx => ?_
                            repeat (go_big_quiet_step (first | (go_at_call 15; exact Calls.ext (HR2.out _ (KH.out.below (bchain HB4.out (Ext.below _))))) | (go_at_call 12; exact Calls.ext (wakes5_any _ (KH.out.below (bchain HB4.out (Ext.below _)))))))
                            refine wpQuiet_nil ?_
                            intro w5 b5
                            go_wp2
                            go_ret
                            exact ⟨rfl, bchain HB4.out b5⟩
                        · have c1t : decide (0 ≤ cl) = false := decide_eq_false c1
                          as_aux_lemma =>
                          have hqv : q = false := by
                            have hq := HQ2.out
                            cases q
                            · rfl
                            · simp at hq
                              omega
                          subst hqv
                          refine wp_region_ext (by kernel_rfl) (by kernel_rfl) fun hx => ?_
                          repeat (go_big_quiet_step (first | (go_at_call 15; exact Calls.ext (HR2.out _ (KH.out.below (bchain HB4.out (Ext.below _))))) | (go_at_call 12; exact Calls.ext (wakes5_any _ (KH.out.below (bchain HB4.out (Ext.below _)))))))
                          refine wpQuiet_nil ?_
                          intro w5 b5
                          go_wp2
                          go_ret
                          exact ⟨rfl, bchain HB4.out b5⟩
                      · cases m with
                        | false =>
                          as_aux_lemma =>
                          have hqv : q = false := by
                            have hq := HQ2.out
                            cases q
                            · rfl
                            · simp at hq
                              omega
                          subst hqv
                          refine wp_region_ext (by kernel_rfl) (by kernel_rfl) fun hx => ?_
                          repeat (go_big_quiet_step (first | (go_at_call 15; exact Calls.ext (HR2.out _ (KH.out.below (bchain HB4.out (Ext.below _))))) | (go_at_call 12; exact Calls.ext (wakes5_any _ (KH.out.below (bchain HB4.out (Ext.below _)))))))
                          refine wpQuiet_nil ?_
                          intro w5 b5
                          go_wp2
                          go_ret
                          exact ⟨rfl, bchain HB4.out b5⟩
                        | true =>
                          by_cases b1 : (n1 : Int) < np
                          · have b1t : decide ((n1 : Int) < np) = true := decide_eq_true b1
                            by_cases c1 : 0 ≤ cl
                            · by_cases c2 : cl ≤ 3
                              · by_cases c3 : (n2 : Int) < nm
                                · have c1t : decide (0 ≤ cl) = true := decide_eq_true c1
                                  have c2t : decide (cl ≤ 3) = true := decide_eq_true c2
                                  have c3t : decide ((n2 : Int) < nm) = true := decide_eq_true c3
                                  as_aux_lemma =>
                                  have hqv : q = true := by
                                    have hq := HQ2.out
                                    cases q
                                    · simp at hq
                                      omega
                                    · rfl
                                  subst hqv
                                  refine wp_region_ext (by kernel_rfl) (by kernel_rfl) fun hx => ?_
                                  repeat (go_big_quiet_step (first | (go_at_call 15; exact Calls.ext (HR2.out _ (KH.out.below (bchain HB4.out (Ext.below _))))) | (go_at_call 12; exact Calls.ext (wakes5_any _ (KH.out.below (bchain HB4.out (Ext.below _)))))))
                                  refine wpQuiet_nil ?_
                                  intro w5 b5
                                  go_wp2
                                  go_ret
                                  exact ⟨rfl, bchain HB4.out b5⟩
                                · by_cases c4 : cl = 0
                                  · have c1t : decide (0 ≤ cl) = true := decide_eq_true c1
                                    have c2t : decide (cl ≤ 3) = true := decide_eq_true c2
                                    have c3t : decide ((n2 : Int) < nm) = false := decide_eq_false c3
                                    as_aux_lemma =>
                                    have hqv : q = true := by
                                      have hq := HQ2.out
                                      cases q
                                      · simp at hq
                                        omega
                                      · rfl
                                    subst hqv
                                    refine wp_region_ext (by kernel_rfl) (by kernel_rfl) fun hx => ?_
                                    repeat (go_big_quiet_step (first | (go_at_call 15; exact Calls.ext (HR2.out _ (KH.out.below (bchain HB4.out (Ext.below _))))) | (go_at_call 12; exact Calls.ext (wakes5_any _ (KH.out.below (bchain HB4.out (Ext.below _)))))))
                                    refine wpQuiet_nil ?_
                                    intro w5 b5
                                    go_wp2
                                    go_ret
                                    exact ⟨rfl, bchain HB4.out b5⟩
                                  · have c1t : decide (0 ≤ cl) = true := decide_eq_true c1
                                    have c2t : decide (cl ≤ 3) = true := decide_eq_true c2
                                    have c3t : decide ((n2 : Int) < nm) = false := decide_eq_false c3
                                    have c4t : (cl == 0) = false := by simpa using c4
                                    as_aux_lemma =>
                                    have hqv : q = false := by
                                      have hq := HQ2.out
                                      cases q
                                      · rfl
                                      · simp at hq
                                        omega
                                    subst hqv
                                    refine wp_region_ext (by kernel_rfl) (by kernel_rfl) fun hx => ?_
                                    repeat (go_big_quiet_step (first | (go_at_call 15; exact Calls.ext (HR2.out _ (KH.out.below (bchain HB4.out (Ext.below _))))) | (go_at_call 12; exact Calls.ext (wakes5_any _ (KH.out.below (bchain HB4.out (Ext.below _)))))))
                                    refine wpQuiet_nil ?_
                                    intro w5 b5
                                    go_wp2
                                    go_ret
                                    exact ⟨rfl, bchain HB4.out b5⟩
                              · have c1t : decide (0 ≤ cl) = true := decide_eq_true c1
                                have c2t : decide (cl ≤ 3) = false := decide_eq_false c2
                                as_aux_lemma =>
                                have hqv : q = false := by
                                  have hq := HQ2.out
                                  cases q
                                  · rfl
                                  · simp at hq
                                    omega
                                subst hqv
                                refine wp_region_ext (by kernel_rfl) (by kernel_rfl) fun hx => ?_
                                repeat (go_big_quiet_step (first | (go_at_call 15; exact Calls.ext (HR2.out _ (KH.out.below (bchain HB4.out (Ext.below _))))) | (go_at_call 12; exact Calls.ext (wakes5_any _ (KH.out.below (bchain HB4.out (Ext.below _)))))))
                                refine wpQuiet_nil ?_
                                intro w5 b5
                                go_wp2
                                go_ret
                                exact ⟨rfl, bchain HB4.out b5⟩
                            · have c1t : decide (0 ≤ cl) = false := decide_eq_false c1
                              as_aux_lemma =>
                              have hqv : q = false := by
                                have hq := HQ2.out
                                cases q
                                · rfl
                                · simp at hq
                                  omega
                              subst hqv
                              refine wp_region_ext (by kernel_rfl) (by kernel_rfl) fun hx => ?_
                              repeat (go_big_quiet_step (first | (go_at_call 15; exact Calls.ext (HR2.out _ (KH.out.below (bchain HB4.out (Ext.below _))))) | (go_at_call 12; exact Calls.ext (wakes5_any _ (KH.out.below (bchain HB4.out (Ext.below _)))))))
                              refine wpQuiet_nil ?_
                              intro w5 b5
                              go_wp2
                              go_ret
                              exact ⟨rfl, bchain HB4.out b5⟩
                          · have b1t : decide ((n1 : Int) < np) = false := decide_eq_false b1
                            as_aux_lemma =>
                            have hqv : q = false := by
                              have hq := HQ2.out
                              cases q
                              · rfl
                              · simp at hq
                                omega
                            subst hqv
                            refine wp_region_ext (by kernel_rfl) (by kernel_rfl) fun hx => ?_
                            repeat (go_big_quiet_step (first | (go_at_call 15; exact Calls.ext (HR2.out _ (KH.out.below (bchain HB4.out (Ext.below _))))) | (go_at_call 12; exact Calls.ext (wakes5_any _ (KH.out.below (bchain HB4.out (Ext.below _)))))))
                            refine wpQuiet_nil ?_
                            intro w5 b5
                            go_wp2
                            go_ret
                            exact ⟨rfl, bchain HB4.out b5⟩
                    · cases m with
                      | false =>
                        as_aux_lemma =>
                        have hqv : q = false := by
                          have hq := HQ2.out
                          cases q
                          · rfl
                          · simp at hq
                            omega
                        subst hqv
                        refine wp_region_ext (by kernel_rfl) (by kernel_rfl) fun hx => ?_
                        repeat (go_big_quiet_step (first | (go_at_call 15; exact Calls.ext (HR2.out _ (KH.out.below (bchain HB4.out (Ext.below _))))) | (go_at_call 12; exact Calls.ext (wakes5_any _ (KH.out.below (bchain HB4.out (Ext.below _)))))))
                        refine wpQuiet_nil ?_
                        intro w5 b5
                        go_wp2
                        go_ret
                        exact ⟨rfl, bchain HB4.out b5⟩
                      | true =>
                        by_cases b1 : (n1 : Int) < np
                        · have b1t : decide ((n1 : Int) < np) = true := decide_eq_true b1
                          by_cases c1 : 0 ≤ cl
                          · by_cases c2 : cl ≤ 3
                            · by_cases c3 : (n2 : Int) < nm
                              · have c1t : decide (0 ≤ cl) = true := decide_eq_true c1
                                have c2t : decide (cl ≤ 3) = true := decide_eq_true c2
                                have c3t : decide ((n2 : Int) < nm) = true := decide_eq_true c3
                                as_aux_lemma =>
                                have hqv : q = true := by
                                  have hq := HQ2.out
                                  cases q
                                  · simp at hq
                                    omega
                                  · rfl
                                subst hqv
                                refine wp_region_ext (by kernel_rfl) (by kernel_rfl) fun hx => ?_
                                repeat (go_big_quiet_step (first | (go_at_call 15; exact Calls.ext (HR2.out _ (KH.out.below (bchain HB4.out (Ext.below _))))) | (go_at_call 12; exact Calls.ext (wakes5_any _ (KH.out.below (bchain HB4.out (Ext.below _)))))))
                                refine wpQuiet_nil ?_
                                intro w5 b5
                                go_wp2
                                go_ret
                                exact ⟨rfl, bchain HB4.out b5⟩
                              · by_cases c4 : cl = 0
                                · have c1t : decide (0 ≤ cl) = true := decide_eq_true c1
                                  have c2t : decide (cl ≤ 3) = true := decide_eq_true c2
                                  have c3t : decide ((n2 : Int) < nm) = false := decide_eq_false c3
                                  as_aux_lemma =>
                                  have hqv : q = true := by
                                    have hq := HQ2.out
                                    cases q
                                    · simp at hq
                                      omega
                                    · rfl
                                  subst hqv
                                  refine wp_region_ext (by kernel_rfl) (by kernel_rfl) fun hx => ?_
                                  repeat (go_big_quiet_step (first | (go_at_call 15; exact Calls.ext (HR2.out _ (KH.out.below (bchain HB4.out (Ext.below _))))) | (go_at_call 12; exact Calls.ext (wakes5_any _ (KH.out.below (bchain HB4.out (Ext.below _)))))))
                                  refine wpQuiet_nil ?_
                                  intro w5 b5
                                  go_wp2
                                  go_ret
                                  exact ⟨rfl, bchain HB4.out b5⟩
                                · have c1t : decide (0 ≤ cl) = true := decide_eq_true c1
                                  have c2t : decide (cl ≤ 3) = true := decide_eq_true c2
                                  have c3t : decide ((n2 : Int) < nm) = false := decide_eq_false c3
                                  have c4t : (cl == 0) = false := by simpa using c4
                                  as_aux_lemma =>
                                  have hqv : q = false := by
                                    have hq := HQ2.out
                                    cases q
                                    · rfl
                                    · simp at hq
                                      omega
                                  subst hqv
                                  refine wp_region_ext (by kernel_rfl) (by kernel_rfl) fun hx => ?_
                                  repeat (go_big_quiet_step (first | (go_at_call 15; exact Calls.ext (HR2.out _ (KH.out.below (bchain HB4.out (Ext.below _))))) | (go_at_call 12; exact Calls.ext (wakes5_any _ (KH.out.below (bchain HB4.out (Ext.below _)))))))
                                  refine wpQuiet_nil ?_
                                  intro w5 b5
                                  go_wp2
                                  go_ret
                                  exact ⟨rfl, bchain HB4.out b5⟩
                            · have c1t : decide (0 ≤ cl) = true := decide_eq_true c1
                              have c2t : decide (cl ≤ 3) = false := decide_eq_false c2
                              as_aux_lemma =>
                              have hqv : q = false := by
                                have hq := HQ2.out
                                cases q
                                · rfl
                                · simp at hq
                                  omega
                              subst hqv
                              refine wp_region_ext (by kernel_rfl) (by kernel_rfl) fun hx => ?_
                              repeat (go_big_quiet_step (first | (go_at_call 15; exact Calls.ext (HR2.out _ (KH.out.below (bchain HB4.out (Ext.below _))))) | (go_at_call 12; exact Calls.ext (wakes5_any _ (KH.out.below (bchain HB4.out (Ext.below _)))))))
                              refine wpQuiet_nil ?_
                              intro w5 b5
                              go_wp2
                              go_ret
                              exact ⟨rfl, bchain HB4.out b5⟩
                          · have c1t : decide (0 ≤ cl) = false := decide_eq_false c1
                            as_aux_lemma =>
                            have hqv : q = false := by
                              have hq := HQ2.out
                              cases q
                              · rfl
                              · simp at hq
                                omega
                            subst hqv
                            refine wp_region_ext (by kernel_rfl) (by kernel_rfl) fun hx => ?_
                            repeat (go_big_quiet_step (first | (go_at_call 15; exact Calls.ext (HR2.out _ (KH.out.below (bchain HB4.out (Ext.below _))))) | (go_at_call 12; exact Calls.ext (wakes5_any _ (KH.out.below (bchain HB4.out (Ext.below _)))))))
                            refine wpQuiet_nil ?_
                            intro w5 b5
                            go_wp2
                            go_ret
                            exact ⟨rfl, bchain HB4.out b5⟩
                        · have b1t : decide ((n1 : Int) < np) = false := decide_eq_false b1
                          as_aux_lemma =>
                          have hqv : q = false := by
                            have hq := HQ2.out
                            cases q
                            · rfl
                            · simp at hq
                              omega
                          subst hqv
                          refine wp_region_ext (by kernel_rfl) (by kernel_rfl) fun hx => ?_
                          repeat (go_big_quiet_step (first | (go_at_call 15; exact Calls.ext (HR2.out _ (KH.out.below (bchain HB4.out (Ext.below _))))) | (go_at_call 12; exact Calls.ext (wakes5_any _ (KH.out.below (bchain HB4.out (Ext.below _)))))))
                          refine wpQuiet_nil ?_
                          intro w5 b5
                          go_wp2
                          go_ret
                          exact ⟨rfl, bchain HB4.out b5⟩
end Go.Proofs.YtaajbhdmnbabhaaDoor
