/-
  The walk of PortWays, case by case (printed by wip/tools/portways.py).
-/
import Derived.Test.YtaajbhdmnbabhaaDoorPort6
import Derived.Test.YtaajbhdmnbabhaaDoorPortLaw
namespace Go.Proofs.YtaajbhdmnbabhaaDoor
open Go.RowKit Go.Shelf

set_option maxRecDepth 100000 in
set_option maxHeartbeats 2000000 in
theorem ways_101 (w : World) (K : Kinds w) : Calls Tryd.prog 3 #[.int .u8 1, .int .i64 0, .int .i64 1] w fun e w' => e = .returned (.bool true) ∧ Below w.heap.size w w' := by
  have h1 := fun w1 (K1 : Kinds w1) => way_any 1 0 1 (by decide) (by decide) w1 K1
  have h2 := fun w1 (K1 : Kinds w1) => way_any 1 1 0 (by decide) (by decide) w1 K1
  rw [show wayN 1 0 1 = 0 by decide, show wayB 1 0 1 = true by decide] at h1
  rw [show wayN 1 1 0 = 0 by decide, show wayB 1 1 0 = true by decide] at h2
  have hm := fun w1 (K1 : Kinds w1) => ways_any 1 (by decide) (by decide) w1 K1
  rw [show kMany 1 = 1 by decide] at hm
  have he := fun w1 (K1 : Kinds w1) => ends_any 1 0 (by decide) (by decide) w1 K1
  rw [show eA 1 0 = 0 by decide, show eB 1 0 = 1 by decide, show eIs 1 0 = true by decide] at he
  have HM := Lib.hid hm
  have HE := Lib.hid he
  clear hm he
  have hp := fun w1 (K1 : Kinds w1) => ports_any 1 (by decide) (by decide) w1 K1
  rw [show kPorts 1 = 2 by decide] at hp
  have ho := fun w1 (K1 : Kinds w1) => outs_any 1 0 (by decide) (by decide) w1 K1
  rw [show outs 1 0 = [1] by decide] at ho
  have hx0 := fun w1 (K1 : Kinds w1) => way_any 1 0 1 (by decide) (by decide) w1 K1
  rw [show wayN 1 0 1 = 0 by decide, show wayB 1 0 1 = true by decide] at hx0
  have HX0 := Lib.hid hx0
  clear hx0
  have H1 := Lib.hid h1
  have H2 := Lib.hid h2
  have HP := Lib.hid hp
  have HO := Lib.hid ho
  have KH := Lib.hid K
  clear h1 h2 hp ho K
  go_enter Tryd.func3, Tryd.ntmps3
  go_wp2_with fail
  (with_reducible refine (H1.out _ KH.out).mono ?_)
  rintro e w0 ⟨rfl, B⟩
  go_wp2_with fail
  (with_reducible refine (H2.out _ (KH.out.below B)).mono ?_)
  rintro e w1 ⟨rfl, b⟩
  replace B := bchain B b
  clear b
  go_wp2_with fail
  (with_reducible refine (HP.out _ (KH.out.below B)).mono ?_)
  rintro e w2 ⟨rfl, b⟩
  replace B := bchain B b
  clear b
  go_wp2_with fail
  (with_reducible refine (HM.out _ (KH.out.below B)).mono ?_)
  rintro e w3 ⟨rfl, b⟩
  replace B := bchain B b
  clear b
  go_wp2_with fail
  (with_reducible refine (HE.out _ (KH.out.below B)).mono ?_)
  rintro e w4 ⟨rfl, b⟩
  replace B := bchain B b
  clear b
  go_wp2_with fail
  (with_reducible refine (HO.out _ (KH.out.below B)).mono ?_)
  rintro e X ⟨⟨sv, rfl, hs⟩, b⟩
  replace B := bchain B b
  clear b
  rcases hs with ⟨_, hs⟩ | ⟨g, cap, hv, _, lg, _, _, hc⟩
  · cases hs
  subst hv
  have x0 := hc 0 1 rfl
  clear hc
  go_wp2_with fail
  go_loopw [6, 16, 17, 18, 19, 20] (fun r c _ _ _ _ wr => ∃ n : Nat, n ≤ 1 ∧ c = .int .i64 n ∧ r = .bool false ∧ Below X.heap.size X wr) (fun _ c _ _ _ _ _ => 1 - (intOf c).toNat)
  case atStart => exact ⟨0, by omega, rfl, rfl, Below.refl _ _⟩
  case round =>
    obtain ⟨n, hn, rfl, rfl, hB⟩ := hrel
    have y0 := (hB.cell (p := ⟨g, 0, none⟩) lg).trans x0
    have lg2 : g < wr.heap.size := Nat.lt_of_lt_of_le lg hB.size
    clear x0
    have cs : n = 0 ∨ n = 1 := by omega
    clear hn
    rcases cs with rfl | rfl
    · go_wp2_with fail
      (with_reducible refine (HX0.out _ (KH.out.below (bchain B hB))).mono ?_)
      rintro e u ⟨rfl, b⟩
      have hB2 := bchain hB b
      have z0 := (b.cell (p := ⟨g, 0, none⟩) lg2).trans y0
      have lg3 : g < u.heap.size := Nat.lt_of_lt_of_le lg2 b.size
      clear b y0
      go_wp2_with fail
      go_region
      replace hB2 := hB2.drew
      go_wp2
      go_roundw
      case rel => exact ⟨1, by omega, rfl, rfl, hB2⟩
      case measure => simp [intOf]
    · go_wp2_with fail
      (with_reducible refine (wakes5_any _ (KH.out.below (bchain B hB))).mono ?_)
      rintro e u ⟨rfl, b⟩
      go_wp2
      go_ret
      exact ⟨rfl, bchain (bchain B hB) b⟩

set_option maxRecDepth 100000 in
set_option maxHeartbeats 2000000 in
theorem ways_10n (o : Int) (hw : wayB 1 0 o = false) (w : World) (K : Kinds w) : Calls Tryd.prog 3 #[.int .u8 1, .int .i64 0, .int .i64 o] w fun e w' => e = .returned (.bool true) ∧ Below w.heap.size w w' := by
  have h1 := fun w1 (K1 : Kinds w1) => way_any 1 0 o (by decide) (by decide) w1 K1
  have h2 := fun w1 (K1 : Kinds w1) => way_any 1 o 0 (by decide) (by decide) w1 K1
  rw [← (way_comm 1 0 o).1, ← (way_comm 1 0 o).2] at h2
  rw [way_false hw, hw] at h1 h2
  clear hw
  have hp := fun w1 (K1 : Kinds w1) => ports_any 1 (by decide) (by decide) w1 K1
  rw [show kPorts 1 = 2 by decide] at hp
  have ho := fun w1 (K1 : Kinds w1) => outs_any 1 0 (by decide) (by decide) w1 K1
  rw [show outs 1 0 = [1] by decide] at ho
  have hx0 := fun w1 (K1 : Kinds w1) => way_any 1 0 1 (by decide) (by decide) w1 K1
  rw [show wayN 1 0 1 = 0 by decide, show wayB 1 0 1 = true by decide] at hx0
  have HX0 := Lib.hid hx0
  clear hx0
  have H1 := Lib.hid h1
  have H2 := Lib.hid h2
  have HP := Lib.hid hp
  have HO := Lib.hid ho
  have KH := Lib.hid K
  clear h1 h2 hp ho K
  go_enter Tryd.func3, Tryd.ntmps3
  go_wp2_with fail
  (with_reducible refine (H1.out _ KH.out).mono ?_)
  rintro e w0 ⟨rfl, B⟩
  go_wp2_with fail
  (with_reducible refine (H2.out _ (KH.out.below B)).mono ?_)
  rintro e w1 ⟨rfl, b⟩
  replace B := bchain B b
  clear b
  go_wp2_with fail
  (with_reducible refine (HP.out _ (KH.out.below B)).mono ?_)
  rintro e w2 ⟨rfl, b⟩
  replace B := bchain B b
  clear b
  go_wp2_with fail
  (with_reducible refine (HO.out _ (KH.out.below B)).mono ?_)
  rintro e X ⟨⟨sv, rfl, hs⟩, b⟩
  replace B := bchain B b
  clear b
  rcases hs with ⟨_, hs⟩ | ⟨g, cap, hv, _, lg, _, _, hc⟩
  · cases hs
  subst hv
  have x0 := hc 0 1 rfl
  clear hc
  go_wp2_with fail
  go_loopw [6, 16, 17, 18, 19, 20] (fun r c _ _ _ _ wr => ∃ n : Nat, n ≤ 1 ∧ c = .int .i64 n ∧ r = .bool false ∧ Below X.heap.size X wr) (fun _ c _ _ _ _ _ => 1 - (intOf c).toNat)
  case atStart => exact ⟨0, by omega, rfl, rfl, Below.refl _ _⟩
  case round =>
    obtain ⟨n, hn, rfl, rfl, hB⟩ := hrel
    have y0 := (hB.cell (p := ⟨g, 0, none⟩) lg).trans x0
    have lg2 : g < wr.heap.size := Nat.lt_of_lt_of_le lg hB.size
    clear x0
    have cs : n = 0 ∨ n = 1 := by omega
    clear hn
    rcases cs with rfl | rfl
    · go_wp2_with fail
      (with_reducible refine (HX0.out _ (KH.out.below (bchain B hB))).mono ?_)
      rintro e u ⟨rfl, b⟩
      have hB2 := bchain hB b
      have z0 := (b.cell (p := ⟨g, 0, none⟩) lg2).trans y0
      have lg3 : g < u.heap.size := Nat.lt_of_lt_of_le lg2 b.size
      clear b y0
      go_wp2_with fail
      go_region
      replace hB2 := hB2.drew
      go_wp2
      go_roundw
      case rel => exact ⟨1, by omega, rfl, rfl, hB2⟩
      case measure => simp [intOf]
    · go_wp2_with fail
      (with_reducible refine (wakes5_any _ (KH.out.below (bchain B hB))).mono ?_)
      rintro e u ⟨rfl, b⟩
      go_wp2
      go_ret
      exact ⟨rfl, bchain (bchain B hB) b⟩

set_option maxRecDepth 100000 in
set_option maxHeartbeats 2000000 in
theorem ways_110 (w : World) (K : Kinds w) : Calls Tryd.prog 3 #[.int .u8 1, .int .i64 1, .int .i64 0] w fun e w' => e = .returned (.bool true) ∧ Below w.heap.size w w' := by
  have h1 := fun w1 (K1 : Kinds w1) => way_any 1 1 0 (by decide) (by decide) w1 K1
  have h2 := fun w1 (K1 : Kinds w1) => way_any 1 0 1 (by decide) (by decide) w1 K1
  rw [show wayN 1 1 0 = 0 by decide, show wayB 1 1 0 = true by decide] at h1
  rw [show wayN 1 0 1 = 0 by decide, show wayB 1 0 1 = true by decide] at h2
  have hm := fun w1 (K1 : Kinds w1) => ways_any 1 (by decide) (by decide) w1 K1
  rw [show kMany 1 = 1 by decide] at hm
  have he := fun w1 (K1 : Kinds w1) => ends_any 1 0 (by decide) (by decide) w1 K1
  rw [show eA 1 0 = 0 by decide, show eB 1 0 = 1 by decide, show eIs 1 0 = true by decide] at he
  have HM := Lib.hid hm
  have HE := Lib.hid he
  clear hm he
  have hp := fun w1 (K1 : Kinds w1) => ports_any 1 (by decide) (by decide) w1 K1
  rw [show kPorts 1 = 2 by decide] at hp
  have ho := fun w1 (K1 : Kinds w1) => outs_any 1 1 (by decide) (by decide) w1 K1
  rw [show outs 1 1 = [0] by decide] at ho
  have hx0 := fun w1 (K1 : Kinds w1) => way_any 1 1 0 (by decide) (by decide) w1 K1
  rw [show wayN 1 1 0 = 0 by decide, show wayB 1 1 0 = true by decide] at hx0
  have HX0 := Lib.hid hx0
  clear hx0
  have H1 := Lib.hid h1
  have H2 := Lib.hid h2
  have HP := Lib.hid hp
  have HO := Lib.hid ho
  have KH := Lib.hid K
  clear h1 h2 hp ho K
  go_enter Tryd.func3, Tryd.ntmps3
  go_wp2_with fail
  (with_reducible refine (H1.out _ KH.out).mono ?_)
  rintro e w0 ⟨rfl, B⟩
  go_wp2_with fail
  (with_reducible refine (H2.out _ (KH.out.below B)).mono ?_)
  rintro e w1 ⟨rfl, b⟩
  replace B := bchain B b
  clear b
  go_wp2_with fail
  (with_reducible refine (HP.out _ (KH.out.below B)).mono ?_)
  rintro e w2 ⟨rfl, b⟩
  replace B := bchain B b
  clear b
  go_wp2_with fail
  (with_reducible refine (HM.out _ (KH.out.below B)).mono ?_)
  rintro e w3 ⟨rfl, b⟩
  replace B := bchain B b
  clear b
  go_wp2_with fail
  (with_reducible refine (HE.out _ (KH.out.below B)).mono ?_)
  rintro e w4 ⟨rfl, b⟩
  replace B := bchain B b
  clear b
  go_wp2_with fail
  (with_reducible refine (HO.out _ (KH.out.below B)).mono ?_)
  rintro e X ⟨⟨sv, rfl, hs⟩, b⟩
  replace B := bchain B b
  clear b
  rcases hs with ⟨_, hs⟩ | ⟨g, cap, hv, _, lg, _, _, hc⟩
  · cases hs
  subst hv
  have x0 := hc 0 0 rfl
  clear hc
  go_wp2_with fail
  go_loopw [6, 16, 17, 18, 19, 20] (fun r c _ _ _ _ wr => ∃ n : Nat, n ≤ 1 ∧ c = .int .i64 n ∧ r = .bool false ∧ Below X.heap.size X wr) (fun _ c _ _ _ _ _ => 1 - (intOf c).toNat)
  case atStart => exact ⟨0, by omega, rfl, rfl, Below.refl _ _⟩
  case round =>
    obtain ⟨n, hn, rfl, rfl, hB⟩ := hrel
    have y0 := (hB.cell (p := ⟨g, 0, none⟩) lg).trans x0
    have lg2 : g < wr.heap.size := Nat.lt_of_lt_of_le lg hB.size
    clear x0
    have cs : n = 0 ∨ n = 1 := by omega
    clear hn
    rcases cs with rfl | rfl
    · go_wp2_with fail
      (with_reducible refine (HX0.out _ (KH.out.below (bchain B hB))).mono ?_)
      rintro e u ⟨rfl, b⟩
      have hB2 := bchain hB b
      have z0 := (b.cell (p := ⟨g, 0, none⟩) lg2).trans y0
      have lg3 : g < u.heap.size := Nat.lt_of_lt_of_le lg2 b.size
      clear b y0
      go_wp2_with fail
      go_region
      replace hB2 := hB2.drew
      go_wp2
      go_roundw
      case rel => exact ⟨1, by omega, rfl, rfl, hB2⟩
      case measure => simp [intOf]
    · go_wp2_with fail
      (with_reducible refine (wakes5_any _ (KH.out.below (bchain B hB))).mono ?_)
      rintro e u ⟨rfl, b⟩
      go_wp2
      go_ret
      exact ⟨rfl, bchain (bchain B hB) b⟩

set_option maxRecDepth 100000 in
set_option maxHeartbeats 2000000 in
theorem ways_11n (o : Int) (hw : wayB 1 1 o = false) (w : World) (K : Kinds w) : Calls Tryd.prog 3 #[.int .u8 1, .int .i64 1, .int .i64 o] w fun e w' => e = .returned (.bool true) ∧ Below w.heap.size w w' := by
  have h1 := fun w1 (K1 : Kinds w1) => way_any 1 1 o (by decide) (by decide) w1 K1
  have h2 := fun w1 (K1 : Kinds w1) => way_any 1 o 1 (by decide) (by decide) w1 K1
  rw [← (way_comm 1 1 o).1, ← (way_comm 1 1 o).2] at h2
  rw [way_false hw, hw] at h1 h2
  clear hw
  have hp := fun w1 (K1 : Kinds w1) => ports_any 1 (by decide) (by decide) w1 K1
  rw [show kPorts 1 = 2 by decide] at hp
  have ho := fun w1 (K1 : Kinds w1) => outs_any 1 1 (by decide) (by decide) w1 K1
  rw [show outs 1 1 = [0] by decide] at ho
  have hx0 := fun w1 (K1 : Kinds w1) => way_any 1 1 0 (by decide) (by decide) w1 K1
  rw [show wayN 1 1 0 = 0 by decide, show wayB 1 1 0 = true by decide] at hx0
  have HX0 := Lib.hid hx0
  clear hx0
  have H1 := Lib.hid h1
  have H2 := Lib.hid h2
  have HP := Lib.hid hp
  have HO := Lib.hid ho
  have KH := Lib.hid K
  clear h1 h2 hp ho K
  go_enter Tryd.func3, Tryd.ntmps3
  go_wp2_with fail
  (with_reducible refine (H1.out _ KH.out).mono ?_)
  rintro e w0 ⟨rfl, B⟩
  go_wp2_with fail
  (with_reducible refine (H2.out _ (KH.out.below B)).mono ?_)
  rintro e w1 ⟨rfl, b⟩
  replace B := bchain B b
  clear b
  go_wp2_with fail
  (with_reducible refine (HP.out _ (KH.out.below B)).mono ?_)
  rintro e w2 ⟨rfl, b⟩
  replace B := bchain B b
  clear b
  go_wp2_with fail
  (with_reducible refine (HO.out _ (KH.out.below B)).mono ?_)
  rintro e X ⟨⟨sv, rfl, hs⟩, b⟩
  replace B := bchain B b
  clear b
  rcases hs with ⟨_, hs⟩ | ⟨g, cap, hv, _, lg, _, _, hc⟩
  · cases hs
  subst hv
  have x0 := hc 0 0 rfl
  clear hc
  go_wp2_with fail
  go_loopw [6, 16, 17, 18, 19, 20] (fun r c _ _ _ _ wr => ∃ n : Nat, n ≤ 1 ∧ c = .int .i64 n ∧ r = .bool false ∧ Below X.heap.size X wr) (fun _ c _ _ _ _ _ => 1 - (intOf c).toNat)
  case atStart => exact ⟨0, by omega, rfl, rfl, Below.refl _ _⟩
  case round =>
    obtain ⟨n, hn, rfl, rfl, hB⟩ := hrel
    have y0 := (hB.cell (p := ⟨g, 0, none⟩) lg).trans x0
    have lg2 : g < wr.heap.size := Nat.lt_of_lt_of_le lg hB.size
    clear x0
    have cs : n = 0 ∨ n = 1 := by omega
    clear hn
    rcases cs with rfl | rfl
    · go_wp2_with fail
      (with_reducible refine (HX0.out _ (KH.out.below (bchain B hB))).mono ?_)
      rintro e u ⟨rfl, b⟩
      have hB2 := bchain hB b
      have z0 := (b.cell (p := ⟨g, 0, none⟩) lg2).trans y0
      have lg3 : g < u.heap.size := Nat.lt_of_lt_of_le lg2 b.size
      clear b y0
      go_wp2_with fail
      go_region
      replace hB2 := hB2.drew
      go_wp2
      go_roundw
      case rel => exact ⟨1, by omega, rfl, rfl, hB2⟩
      case measure => simp [intOf]
    · go_wp2_with fail
      (with_reducible refine (wakes5_any _ (KH.out.below (bchain B hB))).mono ?_)
      rintro e u ⟨rfl, b⟩
      go_wp2
      go_ret
      exact ⟨rfl, bchain (bchain B hB) b⟩
end Go.Proofs.YtaajbhdmnbabhaaDoor
