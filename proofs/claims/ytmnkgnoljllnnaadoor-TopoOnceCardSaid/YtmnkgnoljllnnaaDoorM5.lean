/-
  lockbarref09.signals, exits, flanks: the first that is as one ahead.
-/
import Derived.Test.YtmnkgnoljllnnaaDoorTie
import Derived.Test.YtmnkgnoljllnnaaDoorCards
import Derived.Test.YtmnkgnoljllnnaaDoorM4
import Derived.Deep.RegionHeld3
import Derived.StillTailTactics
import Derived.ProofKit
import Derived.ChangeSame
import Derived.Carry
import Derived.LaidMore
import Derived.OpenShut
import Derived.Stop.Joined
import Derived.Deep.Slices
import Derived.Lib.SmallJoins
import Derived.SevenTiedAt

namespace Go.Proofs.YtmnkgnoljllnnaaDoor
open Go.RowKit Go.Shelf

theorem dups_nil {P : Nat → Nat → Bool} : ∀ {k : Nat}, (∀ j, j < k → dupAt P j = false) → dups P k = []
  | 0, _ => rfl
  | k + 1, h => by
    unfold dups
    rw [dups_nil (k := k) (fun j hj => h j (by omega)), h k (by omega)]
    rfl
theorem firstDup_at {P : Nat → Nat → Bool} {n k : Nat} (hk : k < n) (h : ∀ j, j < k → dupAt P j = false) (hd : dupAt P k = true) : firstDup P n = k := by
  refine firstDup_some ?_
  have e : dups P (k + 1) = [k] := by
    unfold dups
    rw [dups_nil h, hd]
    rfl
  rw [← e]
  exact dups_pre hk
theorem firstDup_no {P : Nat → Nat → Bool} {n : Nat} (h : ∀ j, j < n → dupAt P j = false) : firstDup P n = -1 := firstDup_none (dups_nil h)
theorem dupAt_hit {P : Nat → Nat → Bool} {i k : Nat} (hi : i < k) (h : P i k = true) : dupAt P k = true := by
  unfold dupAt
  rw [List.any_eq_true]
  exact ⟨i, List.mem_range.2 hi, h⟩
theorem dupAt_miss {P : Nat → Nat → Bool} {k : Nat} (h : ∀ j, j < k → P j k = false) : dupAt P k = false := by
  unfold dupAt
  rw [List.any_eq_false]
  intro j hj
  rw [h j (List.mem_range.1 hj)]
  simp

set_option maxRecDepth 100000 in
set_option maxHeartbeats 8000000 in
theorem rsignals_any (L : Lay) (P : Where) (w : World) (hL : LayAt w P L) :
    Calls Tryd.prog 23 #[L.val P] w fun e w' => e = .returned (.int .i64 (firstDup (sigP L) L.sigs.length)) ∧ Below w.heap.size w w' := by
  have m1 : L.sigs.length ≤ 9223372036854775807 := Nat.le_trans hL.l1.1 hL.l1.2
  obtain ⟨a0, a1, a2, a3, p0, p1, p2, p3⟩ := P
  have HL := Lib.hid hL
  clear hL
  unfold Lay.val
  go_enter Tryd.func23, Tryd.ntmps23
  go_wp2_with fail
  obtain ⟨X, hX⟩ : ∃ X, X = w.alloc (.cells #[.slice a0 L.secs.length p0, .slice a1 L.sigs.length p1, .slice a2 L.exits.length p2, .slice a3 L.flanks.length p3, .int .i64 L.t0, .int .i64 L.t1, .int .i64 L.t2, .int .i64 L.t3, .int .i64 L.t4, .int .i64 L.t5, .int .i64 L.t6] 29) := ⟨_, rfl⟩
  have hBX : Below w.heap.size w X := by rw [hX]; exact bself
  have hBL : BoxL X w.heap.size L ⟨a0, a1, a2, a3, p0, p1, p2, p3⟩ := by rw [hX]; exact BoxL.make (L := L) (p := ⟨a0, a1, a2, a3, p0, p1, p2, p3⟩) _ rfl
  rw [← hX]
  have HX := Lib.hid (⟨hBX, hBL⟩ : _ ∧ _)
  clear hX hBX hBL
  go_loopw [3] (fun c wr => ∃ k : Nat, k ≤ L.sigs.length ∧ c = .int .i64 k ∧ Hid (Below w.heap.size w wr) ∧ Hid (Below X.heap.size X wr) ∧ Hid (∀ j, j < k → dupAt (sigP L) j = false)) (fun c _ => L.sigs.length - (intOf c).toNat)
  case atStart => exact ⟨0, Nat.zero_le _, rfl, Lib.hid HX.out.1, Lib.hid (Below.refl _ _), Lib.hid (fun j hj => absurd hj (Nat.not_lt_zero _))⟩
  case round =>
    obtain ⟨k, hk, rfl, HBr, HBrr, HJ⟩ := hrel
    have hbx := HX.out.2.below HBrr.out
    obtain ⟨c0, c1, c2, c3, c4, c5, c6, c7, c8, c9, c10⟩ := hbx.cells
    have lg := hbx.1
    dsimp only at c0 c1 c2 c3
    clear hbx
    by_cases hlt : k < L.sigs.length
    · go_wp2_with fail
      go_loopw [4] (fun c wi => ∃ i : Nat, i ≤ k ∧ c = .int .i64 i ∧ Hid (Below w.heap.size w wi) ∧ Hid (Below X.heap.size X wi) ∧ Hid (∀ j, j < i → sigP L j k = false)) (fun c _ => k - (intOf c).toNat)
      case atStart => exact ⟨0, Nat.zero_le _, rfl, HBr, HBrr, Lib.hid (fun j hj => absurd hj (Nat.not_lt_zero _))⟩
      case round =>
        obtain ⟨i, hi, rfl, HBi, HBii, HN⟩ := hrel
        clear c0 c1 c2 c3 c4 c5 c6 c7 c8 c9 c10 lg HBr HBrr
        obtain ⟨wi, rfl⟩ : ∃ wi : World, wi = wr := ⟨_, rfl⟩
        by_cases hlti : i < k
        · skip
          obtain ⟨b, off, e0, hrow⟩ := (HL.out.below HBi.out).sigs.get (show i < L.sigs.length by omega)
          obtain ⟨x, hx⟩ : ∃ x, L.sigs[i]? = some x := ⟨_, List.getElem?_eq_getElem (by omega)⟩
          obtain ⟨y, hy⟩ : ∃ y, L.sigs[k]? = some y := ⟨_, List.getElem?_eq_getElem hlt⟩
          have hq : sigP L i k = decide (x.s = y.s ∧ x.p = y.p) := by
            unfold sigP
            rw [hx, hy]
            obtain ⟨xs, xp⟩ := x
            obtain ⟨ys, yp⟩ := y
            simp
          dsimp only at e0
          subst e0
          have x0 : wi.cell? ⟨b, off + i * 2, none⟩ = some (.int .i64 x.s) := hrow.2 i x hx 0 _ rfl
          have x1 : wi.cell? ⟨b, off + i * 2 + 1, none⟩ = some (.int .i64 x.p) := hrow.2 i x hx 1 _ rfl
          have y0 : wi.cell? ⟨b, off + k * 2, none⟩ = some (.int .i64 y.s) := hrow.2 k y hy 0 _ rfl
          have y1 : wi.cell? ⟨b, off + k * 2 + 1, none⟩ = some (.int .i64 y.p) := hrow.2 k y hy 1 _ rfl
          have lb := hrow.1
          have hbx := HX.out.2.below HBii.out
          obtain ⟨c0, c1, c2, c3, c4, c5, c6, c7, c8, c9, c10⟩ := hbx.cells
          have lg := hbx.1
          dsimp only at c0 c1 c2 c3
          have hm : i < L.sigs.length := by omega
          generalize x.s = xs at x0 hq
          generalize x.p = xp at x1 hq
          generalize y.s = ys at y0 hq
          generalize y.p = yp at y1 hq
          obtain ⟨q, hq2⟩ : ∃ q, q = sigP L i k := ⟨_, rfl⟩
          have HQ := Lib.hid hq2
          rw [← hq2] at hq
          clear hrow hx hy hbx hq2
          have hqE : ∀ V', (Op.equalIn 10000 37 (.agg #[.int .i64 xs, .int .i64 xp]) (.agg #[.int .i64 ys, .int .i64 yp])).run Tryd.prog V' = .ok q V' := fun V' => by rw [eqQ_portI, hq]
          clear hq
          go_wp2_with fail
          refine wp_region_ext (by kernel_rfl) (by kernel_rfl) fun hxx => ?_
          repeat (go_big_quiet_step (fail))
          refine wpQuiet_nil ?_
          intro w5 b5
          have HB5 := Lib.hid (bchain HBii.out b5)
          have HB6 := Lib.hid (bchain HBi.out b5)
          clear b5 hqE hxx x0 x1 y0 y1 c0 c1 c2 c3 c4 c5 c6 c7 c8 c9 c10
          cases q with
          | true =>
            go_wp2
            go_ret
            exact ⟨ret_int (firstDup_at hlt HJ.out (dupAt_hit (by omega) HQ.out.symm)).symm, HB6.out⟩
          | false =>
            go_wp2
            go_roundw
            case rel => exact ⟨i + 1, by omega, by go_num, HB6, HB5, Lib.hid (fun j hj => by
              by_cases e : j = i
              · subst e; exact HQ.out.symm
              · exact HN.out j (by omega))⟩
            case measure => simp [intOf]; omega
        · obtain rfl : i = k := by omega
          go_wp2
          go_roundw
          case rel => exact ⟨i + 1, by omega, by go_num, HBi, HBii, Lib.hid (fun j hj => by
            by_cases e : j = i
            · subst e; exact dupAt_miss HN.out
            · exact HJ.out j (by omega))⟩
          case measure => simp [intOf]; omega
    · obtain rfl : k = L.sigs.length := by omega
      go_wp2
      go_ret
      exact ⟨ret_int (firstDup_no HJ.out).symm, HBr.out⟩

set_option maxRecDepth 100000 in
set_option maxHeartbeats 8000000 in
theorem rexits_any (L : Lay) (P : Where) (w : World) (hL : LayAt w P L) :
    Calls Tryd.prog 24 #[L.val P] w fun e w' => e = .returned (.int .i64 (firstDup (exQ L) L.exits.length)) ∧ Below w.heap.size w w' := by
  have m1 : L.exits.length ≤ 9223372036854775807 := Nat.le_trans hL.l2.1 hL.l2.2
  obtain ⟨a0, a1, a2, a3, p0, p1, p2, p3⟩ := P
  have HL := Lib.hid hL
  clear hL
  unfold Lay.val
  go_enter Tryd.func24, Tryd.ntmps24
  go_wp2_with fail
  obtain ⟨X, hX⟩ : ∃ X, X = w.alloc (.cells #[.slice a0 L.secs.length p0, .slice a1 L.sigs.length p1, .slice a2 L.exits.length p2, .slice a3 L.flanks.length p3, .int .i64 L.t0, .int .i64 L.t1, .int .i64 L.t2, .int .i64 L.t3, .int .i64 L.t4, .int .i64 L.t5, .int .i64 L.t6] 29) := ⟨_, rfl⟩
  have hBX : Below w.heap.size w X := by rw [hX]; exact bself
  have hBL : BoxL X w.heap.size L ⟨a0, a1, a2, a3, p0, p1, p2, p3⟩ := by rw [hX]; exact BoxL.make (L := L) (p := ⟨a0, a1, a2, a3, p0, p1, p2, p3⟩) _ rfl
  rw [← hX]
  have HX := Lib.hid (⟨hBX, hBL⟩ : _ ∧ _)
  clear hX hBX hBL
  go_loopw [3] (fun c wr => ∃ k : Nat, k ≤ L.exits.length ∧ c = .int .i64 k ∧ Hid (Below w.heap.size w wr) ∧ Hid (Below X.heap.size X wr) ∧ Hid (∀ j, j < k → dupAt (exQ L) j = false)) (fun c _ => L.exits.length - (intOf c).toNat)
  case atStart => exact ⟨0, Nat.zero_le _, rfl, Lib.hid HX.out.1, Lib.hid (Below.refl _ _), Lib.hid (fun j hj => absurd hj (Nat.not_lt_zero _))⟩
  case round =>
    obtain ⟨k, hk, rfl, HBr, HBrr, HJ⟩ := hrel
    have hbx := HX.out.2.below HBrr.out
    obtain ⟨c0, c1, c2, c3, c4, c5, c6, c7, c8, c9, c10⟩ := hbx.cells
    have lg := hbx.1
    dsimp only at c0 c1 c2 c3
    clear hbx
    by_cases hlt : k < L.exits.length
    · go_wp2_with fail
      go_loopw [4] (fun c wi => ∃ i : Nat, i ≤ k ∧ c = .int .i64 i ∧ Hid (Below w.heap.size w wi) ∧ Hid (Below X.heap.size X wi) ∧ Hid (∀ j, j < i → exQ L j k = false)) (fun c _ => k - (intOf c).toNat)
      case atStart => exact ⟨0, Nat.zero_le _, rfl, HBr, HBrr, Lib.hid (fun j hj => absurd hj (Nat.not_lt_zero _))⟩
      case round =>
        obtain ⟨i, hi, rfl, HBi, HBii, HN⟩ := hrel
        clear c0 c1 c2 c3 c4 c5 c6 c7 c8 c9 c10 lg HBr HBrr
        obtain ⟨wi, rfl⟩ : ∃ wi : World, wi = wr := ⟨_, rfl⟩
        by_cases hlti : i < k
        · skip
          obtain ⟨es, hes, hAt, hov⟩ := (HL.out.below HBi.out).exits
          have hlen : es.length = L.exits.length := by rw [← hes, List.length_map]
          obtain ⟨b, off, e0, hrow⟩ := hAt.get (j := i) (by omega)
          obtain ⟨x, hx⟩ : ∃ x, es[i]? = some x := ⟨_, List.getElem?_eq_getElem (by omega)⟩
          obtain ⟨y, hy⟩ : ∃ y, es[k]? = some y := ⟨_, List.getElem?_eq_getElem (by omega)⟩
          have hq : exQ L i k = decide (x.1.s = y.1.s ∧ x.1.p = y.1.p) := by
            unfold exQ
            rw [← hes, List.getElem?_map, List.getElem?_map, hx, hy]
            obtain ⟨⟨xs, xp, xo⟩, xv⟩ := x
            obtain ⟨⟨ys, yp, yo⟩, yv⟩ := y
            simp [exP]
          dsimp only at e0
          subst e0
          have x0 : wi.cell? ⟨b, off + i * 3, none⟩ = some (.int .i64 x.1.s) := hrow.2 i x hx 0 _ rfl
          have x1 : wi.cell? ⟨b, off + i * 3 + 1, none⟩ = some (.int .i64 x.1.p) := hrow.2 i x hx 1 _ rfl
          have y0 : wi.cell? ⟨b, off + k * 3, none⟩ = some (.int .i64 y.1.s) := hrow.2 k y hy 0 _ rfl
          have y1 : wi.cell? ⟨b, off + k * 3 + 1, none⟩ = some (.int .i64 y.1.p) := hrow.2 k y hy 1 _ rfl
          have lb := hrow.1
          have hbx := HX.out.2.below HBii.out
          obtain ⟨c0, c1, c2, c3, c4, c5, c6, c7, c8, c9, c10⟩ := hbx.cells
          have lg := hbx.1
          dsimp only at c0 c1 c2 c3
          have hm : i < L.exits.length := by omega
          generalize x.1.s = xs at x0 hq
          generalize x.1.p = xp at x1 hq
          generalize y.1.s = ys at y0 hq
          generalize y.1.p = yp at y1 hq
          obtain ⟨q, hq2⟩ : ∃ q, q = exQ L i k := ⟨_, rfl⟩
          have HQ := Lib.hid hq2
          rw [← hq2] at hq
          clear hrow hx hy hbx hq2 hes hAt hov hlen
          have hqE : ∀ V', (Op.equalIn 10000 37 (.agg #[.int .i64 xs, .int .i64 xp]) (.agg #[.int .i64 ys, .int .i64 yp])).run Tryd.prog V' = .ok q V' := fun V' => by rw [eqQ_portI, hq]
          clear hq
          go_wp2_with fail
          refine wp_region_ext (by kernel_rfl) (by kernel_rfl) fun hxx => ?_
          repeat (go_big_quiet_step (fail))
          refine wpQuiet_nil ?_
          intro w5 b5
          have HB5 := Lib.hid (bchain HBii.out b5)
          have HB6 := Lib.hid (bchain HBi.out b5)
          clear b5 hqE hxx x0 x1 y0 y1 c0 c1 c2 c3 c4 c5 c6 c7 c8 c9 c10
          cases q with
          | true =>
            go_wp2
            go_ret
            exact ⟨ret_int (firstDup_at hlt HJ.out (dupAt_hit (by omega) HQ.out.symm)).symm, HB6.out⟩
          | false =>
            go_wp2
            go_roundw
            case rel => exact ⟨i + 1, by omega, by go_num, HB6, HB5, Lib.hid (fun j hj => by
              by_cases e : j = i
              · subst e; exact HQ.out.symm
              · exact HN.out j (by omega))⟩
            case measure => simp [intOf]; omega
        · obtain rfl : i = k := by omega
          go_wp2
          go_roundw
          case rel => exact ⟨i + 1, by omega, by go_num, HBi, HBii, Lib.hid (fun j hj => by
            by_cases e : j = i
            · subst e; exact dupAt_miss HN.out
            · exact HJ.out j (by omega))⟩
          case measure => simp [intOf]; omega
    · obtain rfl : k = L.exits.length := by omega
      go_wp2
      go_ret
      exact ⟨ret_int (firstDup_no HJ.out).symm, HBr.out⟩

set_option maxRecDepth 100000 in
set_option maxHeartbeats 8000000 in
theorem rflanks_any (L : Lay) (P : Where) (w : World) (hL : LayAt w P L) :
    Calls Tryd.prog 26 #[L.val P] w fun e w' => e = .returned (.int .i64 (firstDup (flQ L) L.flanks.length)) ∧ Below w.heap.size w w' := by
  have m1 : L.flanks.length ≤ 9223372036854775807 := Nat.le_trans hL.l3.1 hL.l3.2
  obtain ⟨a0, a1, a2, a3, p0, p1, p2, p3⟩ := P
  have HL := Lib.hid hL
  clear hL
  unfold Lay.val
  go_enter Tryd.func26, Tryd.ntmps26
  go_wp2_with fail
  obtain ⟨X, hX⟩ : ∃ X, X = w.alloc (.cells #[.slice a0 L.secs.length p0, .slice a1 L.sigs.length p1, .slice a2 L.exits.length p2, .slice a3 L.flanks.length p3, .int .i64 L.t0, .int .i64 L.t1, .int .i64 L.t2, .int .i64 L.t3, .int .i64 L.t4, .int .i64 L.t5, .int .i64 L.t6] 29) := ⟨_, rfl⟩
  have hBX : Below w.heap.size w X := by rw [hX]; exact bself
  have hBL : BoxL X w.heap.size L ⟨a0, a1, a2, a3, p0, p1, p2, p3⟩ := by rw [hX]; exact BoxL.make (L := L) (p := ⟨a0, a1, a2, a3, p0, p1, p2, p3⟩) _ rfl
  rw [← hX]
  have HX := Lib.hid (⟨hBX, hBL⟩ : _ ∧ _)
  clear hX hBX hBL
  go_loopw [3] (fun c wr => ∃ k : Nat, k ≤ L.flanks.length ∧ c = .int .i64 k ∧ Hid (Below w.heap.size w wr) ∧ Hid (Below X.heap.size X wr) ∧ Hid (∀ j, j < k → dupAt (flQ L) j = false)) (fun c _ => L.flanks.length - (intOf c).toNat)
  case atStart => exact ⟨0, Nat.zero_le _, rfl, Lib.hid HX.out.1, Lib.hid (Below.refl _ _), Lib.hid (fun j hj => absurd hj (Nat.not_lt_zero _))⟩
  case round =>
    obtain ⟨k, hk, rfl, HBr, HBrr, HJ⟩ := hrel
    have hbx := HX.out.2.below HBrr.out
    obtain ⟨c0, c1, c2, c3, c4, c5, c6, c7, c8, c9, c10⟩ := hbx.cells
    have lg := hbx.1
    dsimp only at c0 c1 c2 c3
    clear hbx
    by_cases hlt : k < L.flanks.length
    · go_wp2_with fail
      go_loopw [4] (fun c wi => ∃ i : Nat, i ≤ k ∧ c = .int .i64 i ∧ Hid (Below w.heap.size w wi) ∧ Hid (Below X.heap.size X wi) ∧ Hid (∀ j, j < i → flQ L j k = false)) (fun c _ => k - (intOf c).toNat)
      case atStart => exact ⟨0, Nat.zero_le _, rfl, HBr, HBrr, Lib.hid (fun j hj => absurd hj (Nat.not_lt_zero _))⟩
      case round =>
        obtain ⟨i, hi, rfl, HBi, HBii, HN⟩ := hrel
        clear c0 c1 c2 c3 c4 c5 c6 c7 c8 c9 c10 lg HBr HBrr
        obtain ⟨wi, rfl⟩ : ∃ wi : World, wi = wr := ⟨_, rfl⟩
        by_cases hlti : i < k
        · skip
          obtain ⟨b, off, e0, hrow⟩ := (HL.out.below HBi.out).flanks.get (show i < L.flanks.length by omega)
          obtain ⟨x, hx⟩ : ∃ x, L.flanks[i]? = some x := ⟨_, List.getElem?_eq_getElem (by omega)⟩
          obtain ⟨y, hy⟩ : ∃ y, L.flanks[k]? = some y := ⟨_, List.getElem?_eq_getElem hlt⟩
          have hq : flQ L i k = (decide (x.s = y.s) && (decide (x.way = y.way) && decide (x.pt = y.pt))) := by
            unfold flQ
            rw [hx, hy]
            obtain ⟨x1, x2, x3, x4⟩ := x
            obtain ⟨y1, y2, y3, y4⟩ := y
            simp [bareF]
          dsimp only at e0
          subst e0
          have x0 : wi.cell? ⟨b, off + i * 4, none⟩ = some (.int .i64 x.s) := hrow.2 i x hx 0 _ rfl
          have x1 : wi.cell? ⟨b, off + i * 4 + 1, none⟩ = some (.int .i64 x.way) := hrow.2 i x hx 1 _ rfl
          have x2 : wi.cell? ⟨b, off + i * 4 + 2, none⟩ = some (.int .i64 x.pt) := hrow.2 i x hx 2 _ rfl
          have x3 : wi.cell? ⟨b, off + i * 4 + 3, none⟩ = some (.int .i64 x.pos) := hrow.2 i x hx 3 _ rfl
          have y0 : wi.cell? ⟨b, off + k * 4, none⟩ = some (.int .i64 y.s) := hrow.2 k y hy 0 _ rfl
          have y1 : wi.cell? ⟨b, off + k * 4 + 1, none⟩ = some (.int .i64 y.way) := hrow.2 k y hy 1 _ rfl
          have y2 : wi.cell? ⟨b, off + k * 4 + 2, none⟩ = some (.int .i64 y.pt) := hrow.2 k y hy 2 _ rfl
          have y3 : wi.cell? ⟨b, off + k * 4 + 3, none⟩ = some (.int .i64 y.pos) := hrow.2 k y hy 3 _ rfl
          have lb := hrow.1
          have hbx := HX.out.2.below HBii.out
          obtain ⟨c0, c1, c2, c3, c4, c5, c6, c7, c8, c9, c10⟩ := hbx.cells
          have lg := hbx.1
          dsimp only at c0 c1 c2 c3
          have hm : i < L.flanks.length := by omega
          generalize x.s = xs at x0 hq
          generalize x.way = xway at x1 hq
          generalize x.pt = xpt at x2 hq
          generalize x.pos = xpos at x3
          generalize y.s = ys at y0 hq
          generalize y.way = yway at y1 hq
          generalize y.pt = ypt at y2 hq
          generalize y.pos = ypos at y3
          obtain ⟨q, hq2⟩ : ∃ q, q = flQ L i k := ⟨_, rfl⟩
          have HQ := Lib.hid hq2
          rw [← hq2] at hq
          clear hrow hx hy hbx hq2
          have HQQ := Lib.hid hq
          clear hq
          have dk : decide ((k : Int) < (L.flanks.length : Int)) = true := decide_eq_true (by omega)
          have hk0 : (0 : Int) ≤ (k : Int) := by omega
          have hk1 : (k : Int) < (L.flanks.length : Int) := by omega
          have hi0 : (0 : Int) ≤ (i : Int) := by omega
          have hi1 : (i : Int) < (L.flanks.length : Int) := by omega
          clear c0 c1 c2 c4 c5 c6 c7 c8 c9 c10
          have n1 := World.new_ne wi _ x0
          have n2 := World.new_ne wi _ c3
          go_wp2_with fail
          by_cases e1 : xs = ys
          · subst e1
            by_cases e2 : xway = yway
            · subst e2
              by_cases e3 : xpt = ypt
              · subst e3
                obtain rfl : q = true := by rw [HQQ.out]; simp
                go_region_held3 (fun w' => w'.cell? ⟨b, off + i * 4, none⟩ = some (.int .i64 xs) ∧ w'.cell? ⟨b, off + i * 4 + 1, none⟩ = some (.int .i64 xway) ∧ w'.cell? ⟨b, off + i * 4 + 2, none⟩ = some (.int .i64 xpt) ∧ w'.cell? ⟨b, off + i * 4 + 3, none⟩ = some (.int .i64 xpos) ∧ w'.cell? ⟨b, off + k * 4, none⟩ = some (.int .i64 xs) ∧ w'.cell? ⟨b, off + k * 4 + 1, none⟩ = some (.int .i64 xway) ∧ w'.cell? ⟨b, off + k * 4 + 2, none⟩ = some (.int .i64 xpt) ∧ w'.cell? ⟨b, off + k * 4 + 3, none⟩ = some (.int .i64 ypos) ∧ w'.cell? ⟨w.heap.size, 3, none⟩ = some (.slice (some ⟨b, off, none⟩) L.flanks.length p3)) (go_keep) (fail)
                all_goals
                  clear x0 x1 x2 x3 y0 y1 y2 y3 c3
                  go_wp2
                  go_ret
                  exact ⟨ret_int (firstDup_at hlt HJ.out (dupAt_hit (by omega) HQ.out.symm)).symm, (bchain HBi.out (bchain bself bself)).drew⟩
              · have d3 : decide (xpt = ypt) = false := decide_eq_false e3
                obtain rfl : q = false := by rw [HQQ.out, d3]; simp
                go_region_held3 (fun w' => w'.cell? ⟨b, off + i * 4, none⟩ = some (.int .i64 xs) ∧ w'.cell? ⟨b, off + i * 4 + 1, none⟩ = some (.int .i64 xway) ∧ w'.cell? ⟨b, off + i * 4 + 2, none⟩ = some (.int .i64 xpt) ∧ w'.cell? ⟨b, off + i * 4 + 3, none⟩ = some (.int .i64 xpos) ∧ w'.cell? ⟨b, off + k * 4, none⟩ = some (.int .i64 xs) ∧ w'.cell? ⟨b, off + k * 4 + 1, none⟩ = some (.int .i64 xway) ∧ w'.cell? ⟨b, off + k * 4 + 2, none⟩ = some (.int .i64 ypt) ∧ w'.cell? ⟨b, off + k * 4 + 3, none⟩ = some (.int .i64 ypos) ∧ w'.cell? ⟨w.heap.size, 3, none⟩ = some (.slice (some ⟨b, off, none⟩) L.flanks.length p3)) (go_keep) (fail)
                all_goals
                  clear x0 x1 x2 x3 y0 y1 y2 y3 c3
                  go_wp2
                  go_roundw
                  case rel => exact ⟨i + 1, by omega, by go_num, Lib.hid (bchain HBi.out (bchain bself bself)).drew, Lib.hid (bchain HBii.out (bchain bself bself)).drew, Lib.hid (fun j hj => by
                    by_cases e : j = i
                    · subst e; exact HQ.out.symm
                    · exact HN.out j (by omega))⟩
                  case measure => simp [intOf]; omega
            · have d2 : decide (xway = yway) = false := decide_eq_false e2
              obtain rfl : q = false := by rw [HQQ.out, d2]; simp
              go_region_held3 (fun w' => w'.cell? ⟨b, off + i * 4, none⟩ = some (.int .i64 xs) ∧ w'.cell? ⟨b, off + i * 4 + 1, none⟩ = some (.int .i64 xway) ∧ w'.cell? ⟨b, off + i * 4 + 2, none⟩ = some (.int .i64 xpt) ∧ w'.cell? ⟨b, off + i * 4 + 3, none⟩ = some (.int .i64 xpos) ∧ w'.cell? ⟨b, off + k * 4, none⟩ = some (.int .i64 xs) ∧ w'.cell? ⟨b, off + k * 4 + 1, none⟩ = some (.int .i64 yway) ∧ w'.cell? ⟨b, off + k * 4 + 2, none⟩ = some (.int .i64 ypt) ∧ w'.cell? ⟨b, off + k * 4 + 3, none⟩ = some (.int .i64 ypos) ∧ w'.cell? ⟨w.heap.size, 3, none⟩ = some (.slice (some ⟨b, off, none⟩) L.flanks.length p3)) (go_keep) (fail)
              all_goals
                clear x0 x1 x2 x3 y0 y1 y2 y3 c3
                go_wp2
                go_roundw
                case rel => exact ⟨i + 1, by omega, by go_num, Lib.hid (bchain HBi.out (bchain bself bself)).drew, Lib.hid (bchain HBii.out (bchain bself bself)).drew, Lib.hid (fun j hj => by
                  by_cases e : j = i
                  · subst e; exact HQ.out.symm
                  · exact HN.out j (by omega))⟩
                case measure => simp [intOf]; omega
          · have d1 : decide (xs = ys) = false := decide_eq_false e1
            obtain rfl : q = false := by rw [HQQ.out, d1]; simp
            go_region_held3 (fun w' => w'.cell? ⟨b, off + i * 4, none⟩ = some (.int .i64 xs) ∧ w'.cell? ⟨b, off + i * 4 + 1, none⟩ = some (.int .i64 xway) ∧ w'.cell? ⟨b, off + i * 4 + 2, none⟩ = some (.int .i64 xpt) ∧ w'.cell? ⟨b, off + i * 4 + 3, none⟩ = some (.int .i64 xpos) ∧ w'.cell? ⟨b, off + k * 4, none⟩ = some (.int .i64 ys) ∧ w'.cell? ⟨b, off + k * 4 + 1, none⟩ = some (.int .i64 yway) ∧ w'.cell? ⟨b, off + k * 4 + 2, none⟩ = some (.int .i64 ypt) ∧ w'.cell? ⟨b, off + k * 4 + 3, none⟩ = some (.int .i64 ypos) ∧ w'.cell? ⟨w.heap.size, 3, none⟩ = some (.slice (some ⟨b, off, none⟩) L.flanks.length p3)) (go_keep) (fail)
            all_goals
              clear x0 x1 x2 x3 y0 y1 y2 y3 c3
              go_wp2
              go_roundw
              case rel => exact ⟨i + 1, by omega, by go_num, Lib.hid (bchain HBi.out (bchain bself bself)).drew, Lib.hid (bchain HBii.out (bchain bself bself)).drew, Lib.hid (fun j hj => by
                by_cases e : j = i
                · subst e; exact HQ.out.symm
                · exact HN.out j (by omega))⟩
              case measure => simp [intOf]; omega
        · obtain rfl : i = k := by omega
          go_wp2
          go_roundw
          case rel => exact ⟨i + 1, by omega, by go_num, HBi, HBii, Lib.hid (fun j hj => by
            by_cases e : j = i
            · subst e; exact dupAt_miss HN.out
            · exact HJ.out j (by omega))⟩
          case measure => simp [intOf]; omega
    · obtain rfl : k = L.flanks.length := by omega
      go_wp2
      go_ret
      exact ⟨ret_int (firstDup_no HJ.out).symm, HBr.out⟩
end Go.Proofs.YtmnkgnoljllnnaaDoor

/-
  lockbarref09.Over, overs.
-/
namespace Go.Proofs.YtmnkgnoljllnnaaDoor
open Go.RowKit Go.Shelf

theorem overF_cons (L : Lay) (s q : Int) (seen : List Int) (x : Stp) (r : List Stp) : overF L s q seen (x :: r) = (decide (beyL L s q = ⟨x.s, x.i⟩) && !(seen.contains x.s) && overF L x.s x.o (x.s :: seen) r) := rfl

set_option maxRecDepth 100000 in
set_option maxHeartbeats 16000000 in
theorem rOver_any (L : Lay) (P : Where) (x : Int) (w : World) (hL : LayAt w P L) :
    Calls Tryd.prog 15 #[L.val P, .int .i64 x] w fun e w' => e = .returned (.bool (overX L x)) ∧ Below w.heap.size w w' := by
  have hrt := fun W (hb : Below w.heap.size w W) => rRight_any L P W (hL.below hb)
  have m2 : L.exits.length ≤ 9223372036854775807 := Nat.le_trans hL.l2.1 hL.l2.2
  obtain ⟨rr, hrr⟩ : ∃ rr, rr = rightL L := ⟨_, rfl⟩
  obtain ⟨r, hr⟩ : ∃ r, r = overX L x := ⟨_, rfl⟩
  rw [← hr]
  rw [← hrr] at hrt
  have hr0 : rr = false → r = false := fun h => by rw [hr]; unfold overX; rw [← hrr, h]; rfl
  have hr1 : x < 0 → r = false := fun h => by rw [hr]; unfold overX; rw [if_neg (by omega)]; simp
  have hr2 : (L.exits.length : Int) ≤ x → r = false := fun h => by rw [hr]; unfold overX; rw [if_pos (by omega), List.getElem?_eq_none (by omega)]; simp
  have hr3 : rr = true → ∀ (n : Nat) e, x = (n : Int) → L.exits[n]? = some e → r = overF L e.s e.p [e.s] e.over := fun h n e hx he => by
    rw [hr]
    unfold overX
    rw [← hrr, h, Bool.true_and, hx, if_pos (by omega), Int.toNat_natCast, he]
    rfl
  obtain ⟨a0, a1, a2, a3, p0, p1, p2, p3⟩ := P
  have HR := Lib.hid (⟨hr0, hr1, hr2, hr3⟩ : _ ∧ _ ∧ _ ∧ _)
  have HL := Lib.hid hL
  unfold Lay.val at hrt ⊢
  have HRT := Lib.hid hrt
  clear hr hrr hrt hr0 hr1 hr2 hr3 hL
  cases rr with
  | false =>
    obtain rfl : r = false := HR.out.1 rfl
    go_enter Tryd.func15, Tryd.ntmps15
    go_wp2_with fail
    (with_reducible refine (HRT.out (w.alloc (.cells #[.slice a0 L.secs.length p0, .slice a1 L.sigs.length p1, .slice a2 L.exits.length p2, .slice a3 L.flanks.length p3, .int .i64 L.t0, .int .i64 L.t1, .int .i64 L.t2, .int .i64 L.t3, .int .i64 L.t4, .int .i64 L.t5, .int .i64 L.t6] 29)) bself).mono ?_)
    rintro e w1 ⟨rfl, b1⟩
    have HB1 := Lib.hid (bnew b1)
    clear b1
    go_wp2
    go_ret
    exact ⟨rfl, HB1.out⟩
  | true =>
  by_cases hx0 : x < 0
  · obtain rfl : r = false := HR.out.2.1 hx0
    have d0 : decide (x < 0) = true := decide_eq_true hx0
    go_enter Tryd.func15, Tryd.ntmps15
    go_wp2_with fail
    (with_reducible refine (HRT.out (w.alloc (.cells #[.slice a0 L.secs.length p0, .slice a1 L.sigs.length p1, .slice a2 L.exits.length p2, .slice a3 L.flanks.length p3, .int .i64 L.t0, .int .i64 L.t1, .int .i64 L.t2, .int .i64 L.t3, .int .i64 L.t4, .int .i64 L.t5, .int .i64 L.t6] 29)) bself).mono ?_)
    rintro e w1 ⟨rfl, b1⟩
    have HB1 := Lib.hid (bnew b1)
    clear b1
    go_wp2
    go_ret
    exact ⟨rfl, HB1.out⟩
  have d0 : decide (x < 0) = false := decide_eq_false hx0
  obtain ⟨n, rfl⟩ : ∃ n : Nat, x = (n : Int) := ⟨x.toNat, by omega⟩
  by_cases hn : L.exits.length ≤ n
  · obtain rfl : r = false := HR.out.2.2.1 (by omega)
    have d1 : decide ((L.exits.length : Int) ≤ (n : Int)) = true := decide_eq_true (by omega)
    have d2 : decide (L.exits.length ≤ n) = true := decide_eq_true hn
    go_enter Tryd.func15, Tryd.ntmps15
    go_wp2_with fail
    (with_reducible refine (HRT.out (w.alloc (.cells #[.slice a0 L.secs.length p0, .slice a1 L.sigs.length p1, .slice a2 L.exits.length p2, .slice a3 L.flanks.length p3, .int .i64 L.t0, .int .i64 L.t1, .int .i64 L.t2, .int .i64 L.t3, .int .i64 L.t4, .int .i64 L.t5, .int .i64 L.t6] 29)) bself).mono ?_)
    rintro e w1 ⟨rfl, b1⟩
    have HB1 := Lib.hid (bnew b1)
    obtain ⟨c0, c1, c2, c3, c4, c5, c6, c7, c8, c9, c10⟩ := ((BoxL.make (L := L) (p := ⟨a0, a1, a2, a3, p0, p1, p2, p3⟩) 29 (W := w) rfl).below b1).cells
    have lg := Nat.lt_of_lt_of_le (show w.heap.size < (w.alloc (.cells #[.slice a0 L.secs.length p0, .slice a1 L.sigs.length p1, .slice a2 L.exits.length p2, .slice a3 L.flanks.length p3, .int .i64 L.t0, .int .i64 L.t1, .int .i64 L.t2, .int .i64 L.t3, .int .i64 L.t4, .int .i64 L.t5, .int .i64 L.t6] 29)).heap.size by simp) b1.size
    dsimp only at c0 c1 c2 c3
    clear b1
    go_wp2
    go_ret
    exact ⟨rfl, HB1.out⟩
  have hn' : n < L.exits.length := by omega
  have d1 : decide ((L.exits.length : Int) ≤ (n : Int)) = false := decide_eq_false (by omega)
  have d2 : decide (L.exits.length ≤ n) = false := decide_eq_false hn
  obtain ⟨es0, hes, hAt, hov⟩ := HL.out.exits
  have hlen : es0.length = L.exits.length := by rw [← hes, List.length_map]
  obtain ⟨eb, eo, hAe, hrow⟩ := hAt.get (j := n) (by omega)
  obtain ⟨y, hy⟩ : ∃ y, es0[n]? = some y := ⟨es0[n]'(by omega), List.getElem?_eq_getElem (by omega)⟩
  have hx : L.exits[n]? = some y.1 := by rw [← hes, List.getElem?_map, hy]; rfl
  have k0 : w.cell? ⟨eb, eo + n * 3, none⟩ = some (.int .i64 y.1.s) := hrow.2 n y hy 0 _ rfl
  have k1 : w.cell? ⟨eb, eo + n * 3 + 1, none⟩ = some (.int .i64 y.1.p) := hrow.2 n y hy 1 _ rfl
  have k2 : w.cell? ⟨eb, eo + n * 3 + 2, none⟩ = some y.2 := hrow.2 n y hy 2 _ rfl
  obtain ⟨vA, vc, ve, hvl, hvm, hva⟩ := hov y (List.mem_of_getElem? hy)
  rw [ve] at k2
  dsimp only at hAe
  subst hAe
  have lb := hrow.1
  have hrr := HR.out.2.2.2 rfl n y.1 rfl hx
  obtain ⟨⟨es, ep, ov⟩, yv⟩ := y
  dsimp only at k0 k1 k2 hrr hvl hva
  obtain ⟨len, hlen2⟩ : ∃ len, len = ov.length := ⟨_, rfl⟩
  rw [← hlen2] at k2 hvl
  have mo : len ≤ 9223372036854775807 := by have : vc ≤ 9223372036854775807 := hvm; omega
  have HOV := Lib.hid (⟨hlen2, hva⟩ : _ ∧ _)
  have HRR := Lib.hid hrr
  have HK := Lib.hid (⟨k0, k1, k2⟩ : _ ∧ _ ∧ _)
  clear hes hAt hov hlen hrow hy hx ve hvl hvm hva hrr hlen2 hn hx0 HR
  go_enter Tryd.func15, Tryd.ntmps15
  go_wp2_with fail
  (with_reducible refine (HRT.out (w.alloc (.cells #[.slice a0 L.secs.length p0, .slice a1 L.sigs.length p1, .slice (some ⟨eb, eo, none⟩) L.exits.length p2, .slice a3 L.flanks.length p3, .int .i64 L.t0, .int .i64 L.t1, .int .i64 L.t2, .int .i64 L.t3, .int .i64 L.t4, .int .i64 L.t5, .int .i64 L.t6] 29)) bself).mono ?_)
  rintro e w1 ⟨rfl, b1⟩
  have hB1 := bnew b1
  have HBX := Lib.hid ((BoxL.make (L := L) (p := ⟨a0, a1, some ⟨eb, eo, none⟩, a3, p0, p1, p2, p3⟩) 29 (W := w) rfl).below b1)
  obtain ⟨c0, c1, c2, c3, c4, c5, c6, c7, c8, c9, c10⟩ := HBX.out.cells
  have lg := HBX.out.1
  dsimp only at c0 c1 c2 c3
  have hcell := fun o v (h : w.cell? ⟨eb, o, none⟩ = some v) => (hB1.cell (p := ⟨eb, o, none⟩) lb).trans h
  replace k0 := hcell _ _ HK.out.1
  replace k1 := hcell _ _ HK.out.2.1
  replace k2 := hcell _ _ HK.out.2.2
  have lb1 := Nat.lt_of_lt_of_le lb hB1.size
  have HB1 := Lib.hid hB1
  clear b1 hB1 hcell
  go_wp2_with fail
  obtain ⟨X, hX⟩ : ∃ X, X = w1.alloc (.cells #[.int .i64 es, .int .i64 ep] 37) := ⟨_, rfl⟩
  have hBX : Below w.heap.size w X := by rw [hX]; exact bchain HB1.out bself
  have hbx : BoxL X w.heap.size L ⟨a0, a1, some ⟨eb, eo, none⟩, a3, p0, p1, p2, p3⟩ := by rw [hX]; exact HBX.out.below bself
  have q0 : X.cell? ⟨w1.heap.size, 0, none⟩ = some (.int .i64 es) := by rw [hX]; simp [go_sem]
  have q1 : X.cell? ⟨w1.heap.size, 1, none⟩ = some (.int .i64 ep) := by rw [hX]; simp [go_sem]
  have qf : ∀ o, X.frozen? ⟨w1.heap.size, o, none⟩ = false := fun o => by rw [hX]; simp [go_sem]
  have lwg : w.heap.size < w1.heap.size := lg
  rw [← hX]
  have HX := Lib.hid (⟨hBX, hbx, q0, q1, qf⟩ : _ ∧ _ ∧ _ ∧ _ ∧ _)
  clear hX hBX hbx q0 q1 qf c0 c1 c2 c3 c4 c5 c6 c7 c8 c9 c10 k0 k1 k2 lb1 HB1 HBX lg
  generalize w1.heap.size = g5 at HX lwg ⊢
  go_loopw [7] (fun c wr => ∃ (k : Nat) (s q : Int) (ss : List Int), k ≤ len ∧ c = .int .i64 k ∧ Hid (Below w.heap.size w wr ∧ BoxL wr w.heap.size L ⟨a0, a1, some ⟨eb, eo, none⟩, a3, p0, p1, p2, p3⟩ ∧ wr.cell? ⟨g5, 0, none⟩ = some (.int .i64 s) ∧ wr.cell? ⟨g5, 1, none⟩ = some (.int .i64 q) ∧ ∀ o, wr.frozen? ⟨g5, o, none⟩ = false) ∧
      Hid (r = overF L s q ss (ov.drop k)) ∧ Hid (∀ z : Int, z ∈ ss ↔ z = es ∨ ∃ (j : Nat) (y : Stp), j < k ∧ ov[j]? = some y ∧ y.s = z)) (fun c _ => len - (intOf c).toNat)
  case atStart => exact ⟨0, es, ep, [es], Nat.zero_le _, rfl, HX, HRR, Lib.hid (fun z => by
    constructor
    · intro h; exact .inl (List.mem_singleton.1 h)
    · rintro (h | ⟨j, y, hj, _⟩)
      · exact List.mem_singleton.2 h
      · exact absurd hj (Nat.not_lt_zero _))⟩
  case round =>
    obtain ⟨k, s, q, ss, hk, rfl, HI, HQ, HSS⟩ := hrel
    clear HX HRR
    by_cases hlt : k < len
    · obtain ⟨b, off, hAe, hrow⟩ := (HOV.out.2.below HI.out.1).get (j := k) (by rw [← HOV.out.1]; exact hlt)
      subst hAe
      obtain ⟨y, hy⟩ : ∃ y, ov[k]? = some y := ⟨ov[k]'(by rw [← HOV.out.1]; exact hlt), List.getElem?_eq_getElem _⟩
      have hdrop : ov.drop k = y :: ov.drop (k + 1) := by
        have hl : k < ov.length := by rw [← HOV.out.1]; exact hlt
        rw [List.drop_eq_getElem_cons hl]
        have : ov[k] = y := by rw [List.getElem?_eq_getElem hl] at hy; exact Option.some.inj hy
        rw [this]
      have hq := HQ.out
      rw [hdrop, overF_cons] at hq
      obtain ⟨⟨ys, yi, yo⟩, rfl⟩ : ∃ z : Stp, z = y := ⟨_, rfl⟩
      dsimp only at hq
      have z0' : wr.cell? ⟨b, off + k * 3, none⟩ = some (.int .i64 ys) := hrow.2 k _ hy 0 _ rfl
      have z1' : wr.cell? ⟨b, off + k * 3 + 1, none⟩ = some (.int .i64 yi) := hrow.2 k _ hy 1 _ rfl
      have z2' : wr.cell? ⟨b, off + k * 3 + 2, none⟩ = some (.int .i64 yo) := hrow.2 k _ hy 2 _ rfl
      have hbw : b < wr.heap.size := hrow.1
      have hbw0 : b < w.heap.size ∨ True := .inr trivial
      have lebw : eb < w.heap.size := lb
      have leb : eb < wr.heap.size := Nat.lt_of_lt_of_le lb HI.out.1.size
      have e0' : wr.cell? ⟨eb, eo + n * 3, none⟩ = some (.int .i64 es) := (HI.out.1.cell (p := ⟨eb, eo + n * 3, none⟩) lb).trans HK.out.1
      have l5 : g5 < wr.heap.size := World.block_lt_of_cell? _ _ HI.out.2.2.1
      have HBX := Lib.hid HI.out.2.1
      have c2' := HI.out.2.1.cells.2.2.1
      dsimp only at c2'
      have lg := HI.out.2.1.1
      have z0 : ∀ V', ClB wr V' → V'.cell? ⟨b, off + k * 3, none⟩ = some (.int .i64 ys) := fun V' h => (h.cell (p := ⟨b, off + k * 3, none⟩) hbw).trans z0'
      have z1 : ∀ V', ClB wr V' → V'.cell? ⟨b, off + k * 3 + 1, none⟩ = some (.int .i64 yi) := fun V' h => (h.cell (p := ⟨b, off + k * 3 + 1, none⟩) hbw).trans z1'
      have x0 : ∀ V', ClB wr V' → V'.cell? ⟨g5, 0, none⟩ = some (.int .i64 s) := fun V' h => (h.cell (p := ⟨g5, 0, none⟩) l5).trans HI.out.2.2.1
      have x1 : ∀ V', ClB wr V' → V'.cell? ⟨g5, 1, none⟩ = some (.int .i64 q) := fun V' h => (h.cell (p := ⟨g5, 1, none⟩) l5).trans HI.out.2.2.2.1
      have e0 : ∀ V', ClB wr V' → V'.cell? ⟨eb, eo + n * 3, none⟩ = some (.int .i64 es) := fun V' h => (h.cell (p := ⟨eb, eo + n * 3, none⟩) leb).trans e0'
      have c2 : ∀ V', ClB wr V' → V'.cell? ⟨w.heap.size, 2, none⟩ = some (.slice (some ⟨eb, eo, none⟩) L.exits.length p2) := fun V' h => (h.cell (p := ⟨w.heap.size, 2, none⟩) lg).trans c2'
      have hY := fun V' (h : ClB wr V') => rBey_any L ⟨a0, a1, some ⟨eb, eo, none⟩, a3, p0, p1, p2, p3⟩ s q V' (HL.out.below (bchain HI.out.1 h))
      generalize beyL L s q = z at hq hY
      obtain ⟨bs, bp⟩ := z
      dsimp only at hY
      unfold Lay.val at hY
      have HY := Lib.hid hY
      have HROW := Lib.hid (⟨hrow, hy⟩ : _ ∧ _)
      have hkl : k < len := hlt
      have hnl : n < L.exits.length := hn'
      clear hY hrow hy hdrop z0' z1' e0' c2' hbw0
      go_wp2_with fail
      by_cases hE : bs = ys ∧ bp = yi
      · have hqE : ∀ V', (Op.equalIn 10000 37 (.agg #[.int .i64 bs, .int .i64 bp]) (.agg #[.int .i64 ys, .int .i64 yi])).run Tryd.prog V' = .ok true V' := fun V' => by rw [eqQ_portI, decide_eq_true hE]
        have hnE : decide ((⟨bs, bp⟩ : Prt) = ⟨ys, yi⟩) = true := decide_eq_true (by obtain ⟨rfl, rfl⟩ := hE; rfl)
        rw [hnE, Bool.true_and] at hq
        clear hE hnE
        by_cases hes : ys = es
        · subst hes
          obtain rfl : r = false := by
            rw [hq, List.contains_iff_mem.2 ((HSS.out ys).2 (.inl rfl))]; rfl
          clear hq z2'
          focus
            refine wp_region_rel_below [([(2, none)], none), ([(5, none)], none), ([(41, some 1), (42, some 0)], none), ([(6, none)], none), ([(7, none)], none), ([(44, some 1), (45, some 0)], none), ([(46, some 0)], none), ([(47, some 0)], none), ([(6, none)], none), ([(7, none)], none), ([(49, some 1), (50, some 0)], none), ([(51, some 0)], none), ([(52, some 0)], none), ([(48, some 5), (53, some 0)], none), ([(43, some 11), (54, some 0)], none), ([(55, some 0)], none), ([(6, none), (56, some 0)], some (56, false)), ([(7, none), (56, some 1)], some (56, false)), ([(57, some 1), (58, some 0), (56, some 2)], some (56, false)), ([(59, some 0), (56, some 3)], some (56, false)), ([(60, some 0), (56, some 4)], some (56, false)), ([(2, none), (56, some 5)], some (56, false)), ([(62, some 0), (56, some 6)], some (56, false)), ([(1, none), (56, some 7)], some (56, false)), ([(63, some 1), (64, some 0), (56, some 8)], some (56, false)), ([(65, some 0), (56, some 9)], some (56, false)), ([(66, some 0), (56, some 10)], some (56, false)), ([(67, some 0), (56, some 11)], some (56, false)), ([(61, some 7), (68, some 0), (56, some 12)], some (56, false)), ([(56, some 13), (69, some 0)], none)] [(0, 70)] (by kernel_rfl) (by kernel_rfl) ?_
            refine ob_det (c := .agg #[.slice a0 L.secs.length p0, .slice a1 L.sigs.length p1, .slice (some ⟨eb, eo, none⟩) L.exits.length p2, .slice a3 L.flanks.length p3, .int .i64 L.t0, .int .i64 L.t1, .int .i64 L.t2, .int .i64 L.t3, .int .i64 L.t4, .int .i64 L.t5, .int .i64 L.t6]) ?_ ?_
            · intro ρ W hk hC
              simp only [seen, obOp]
              rintro h2
              replace h2 : ρ (.tmp 2) = .pointer (some ⟨w.heap.size, 0, none⟩) := h2.trans rfl
              exact rel_value (runLoad h2 (HBX.out.below hC)) hC
            refine ob_det (c := .agg #[.int .i64 s, .int .i64 q]) ?_ ?_
            · intro ρ W hk hC
              simp only [seen, obOp]
              rintro h5
              replace h5 : ρ (.tmp 5) = .pointer (some ⟨g5, 0, none⟩) := h5.trans rfl
              exact rel_value (by simp [go_sem, h5, x0 W hC, x1 W hC]) hC
            refine ob_det (c := .agg #[.int .i64 bs, .int .i64 bp]) ?_ ?_
            · intro ρ W hk hC
              simp only [seen, obOp, List.getD_cons_zero, List.getD_cons_succ]
              rintro h41 h42
              exact rel_call (f := 17) (args := #[.agg #[.slice a0 L.secs.length p0, .slice a1 L.sigs.length p1, .slice (some ⟨eb, eo, none⟩) L.exits.length p2, .slice a3 L.flanks.length p3, .int .i64 L.t0, .int .i64 L.t1, .int .i64 L.t2, .int .i64 L.t3, .int .i64 L.t4, .int .i64 L.t5, .int .i64 L.t6], .agg #[.int .i64 s, .int .i64 q]]) (by simp [go_sem, h41, h42, hk.func]) hC (HY.out W hC)
            refine ob_det (c := .slice (some ⟨b, off, none⟩) len vc) ?_ ?_
            · intro ρ W hk hC
              simp only [seen, obOp]
              rintro h6
              replace h6 : ρ (.tmp 6) = .slice (some ⟨b, off, none⟩) len vc := h6.trans rfl
              exact rel_value (by simp [go_sem, h6]) hC
            refine ob_det (c := .int .i64 (k : Nat)) ?_ ?_
            · intro ρ W hk hC
              simp only [seen, obOp]
              rintro h7
              replace h7 : ρ (.tmp 7) = .int .i64 (k : Nat) := h7.trans rfl
              exact rel_value (by simp [go_sem, h7]) hC
            refine ob_det (c := .pointer (some ⟨b, off + k * 3, none⟩)) ?_ ?_
            · intro ρ W hk hC
              simp only [seen, obOp, List.getD_cons_zero, List.getD_cons_succ]
              rintro h44 h45
              exact rel_value (by simp [go_sem, h44, h45, hkl]) hC
            refine ob_det (c := .pointer (some ⟨b, off + k * 3, none⟩)) ?_ ?_
            · intro ρ W hk hC
              simp only [seen, obOp, List.getD_cons_zero]
              rintro h46
              exact rel_value (by simp [go_sem, h46]) hC
            refine ob_det (c := .int .i64 ys) ?_ ?_
            · intro ρ W hk hC
              simp only [seen, obOp, List.getD_cons_zero]
              rintro h47
              exact rel_value (by simp [go_sem, h47, z0 W hC]) hC
            refine ob_det (c := .slice (some ⟨b, off, none⟩) len vc) ?_ ?_
            · intro ρ W hk hC
              simp only [seen, obOp]
              rintro h6
              replace h6 : ρ (.tmp 6) = .slice (some ⟨b, off, none⟩) len vc := h6.trans rfl
              exact rel_value (by simp [go_sem, h6]) hC
            refine ob_det (c := .int .i64 (k : Nat)) ?_ ?_
            · intro ρ W hk hC
              simp only [seen, obOp]
              rintro h7
              replace h7 : ρ (.tmp 7) = .int .i64 (k : Nat) := h7.trans rfl
              exact rel_value (by simp [go_sem, h7]) hC
            refine ob_det (c := .pointer (some ⟨b, off + k * 3, none⟩)) ?_ ?_
            · intro ρ W hk hC
              simp only [seen, obOp, List.getD_cons_zero, List.getD_cons_succ]
              rintro h49 h50
              exact rel_value (by simp [go_sem, h49, h50, hkl]) hC
            refine ob_det (c := .pointer (some ⟨b, off + k * 3 + 1, none⟩)) ?_ ?_
            · intro ρ W hk hC
              simp only [seen, obOp, List.getD_cons_zero]
              rintro h51
              exact rel_value (by simp [go_sem, h51]) hC
            refine ob_det (c := .int .i64 yi) ?_ ?_
            · intro ρ W hk hC
              simp only [seen, obOp, List.getD_cons_zero]
              rintro h52
              exact rel_value (by simp [go_sem, h52, z1 W hC]) hC
            refine ob_det (c := .agg #[.int .i64 ys, .int .i64 yi]) ?_ ?_
            · intro ρ W hk hC
              simp only [seen, obOp, List.getD_cons_zero, List.getD_cons_succ]
              rintro h48 h53
              exact rel_value (by simp [go_sem, h48, h53]) hC
            refine ob_det (c := .bool false) ?_ ?_
            · intro ρ W hk hC
              simp only [seen, obOp, List.getD_cons_zero, List.getD_cons_succ]
              rintro h43 h54
              exact rel_value (by simp [go_sem, h43, h54, hqE]) hC
            refine ob_det (c := .bool false) ?_ ?_
            · intro ρ W hk hC
              simp only [seen, obOp, List.getD_cons_zero]
              rintro h55
              exact rel_value (by simp [go_sem, h55]) hC
            refine ob_det (c := .slice (some ⟨b, off, none⟩) len vc) ?_ ?_
            · intro ρ W hk hC
              simp only [seen, obOp, List.getD_cons_zero]
              rintro h6 h56
              replace h6 : ρ (.tmp 6) = .slice (some ⟨b, off, none⟩) len vc := h6.trans rfl
              refine ⟨fun _ => ?_, fun hn => absurd h56 hn⟩
              exact rel_value (by simp [go_sem, h6]) hC
            refine ob_det (c := .int .i64 (k : Nat)) ?_ ?_
            · intro ρ W hk hC
              simp only [seen, obOp, List.getD_cons_zero, List.getD_cons_succ]
              rintro h7 h56
              replace h7 : ρ (.tmp 7) = .int .i64 (k : Nat) := h7.trans rfl
              refine ⟨fun _ => ?_, fun hn => absurd h56 hn⟩
              exact rel_value (by simp [go_sem, h7]) hC
            refine ob_det (c := .pointer (some ⟨b, off + k * 3, none⟩)) ?_ ?_
            · intro ρ W hk hC
              simp only [seen, obOp, List.getD_cons_zero, List.getD_cons_succ]
              rintro h57 h58 h56
              refine ⟨fun _ => ?_, fun hn => absurd h56 hn⟩
              exact rel_value (by simp [go_sem, h57, h58, hkl]) hC
            refine ob_det (c := .pointer (some ⟨b, off + k * 3, none⟩)) ?_ ?_
            · intro ρ W hk hC
              simp only [seen, obOp, List.getD_cons_zero, List.getD_cons_succ]
              rintro h59 h56
              refine ⟨fun _ => ?_, fun hn => absurd h56 hn⟩
              exact rel_value (by simp [go_sem, h59]) hC
            refine ob_det (c := .int .i64 ys) ?_ ?_
            · intro ρ W hk hC
              simp only [seen, obOp, List.getD_cons_zero, List.getD_cons_succ]
              rintro h60 h56
              refine ⟨fun _ => ?_, fun hn => absurd h56 hn⟩
              exact rel_value (by simp [go_sem, h60, z0 W hC]) hC
            refine ob_det (c := .pointer (some ⟨w.heap.size, 2, none⟩)) ?_ ?_
            · intro ρ W hk hC
              simp only [seen, obOp, List.getD_cons_zero, List.getD_cons_succ]
              rintro h2 h56
              replace h2 : ρ (.tmp 2) = .pointer (some ⟨w.heap.size, 0, none⟩) := h2.trans rfl
              refine ⟨fun _ => ?_, fun hn => absurd h56 hn⟩
              exact rel_value (by simp [go_sem, h2]) hC
            refine ob_det (c := .slice (some ⟨eb, eo, none⟩) L.exits.length p2) ?_ ?_
            · intro ρ W hk hC
              simp only [seen, obOp, List.getD_cons_zero, List.getD_cons_succ]
              rintro h62 h56
              refine ⟨fun _ => ?_, fun hn => absurd h56 hn⟩
              exact rel_value (by simp [go_sem, h62, c2 W hC]) hC
            refine ob_det (c := .int .i64 (n : Nat)) ?_ ?_
            · intro ρ W hk hC
              simp only [seen, obOp, List.getD_cons_zero, List.getD_cons_succ]
              rintro h1 h56
              replace h1 : ρ (.tmp 1) = .int .i64 (n : Nat) := h1.trans rfl
              refine ⟨fun _ => ?_, fun hn => absurd h56 hn⟩
              exact rel_value (by simp [go_sem, h1]) hC
            refine ob_det (c := .pointer (some ⟨eb, eo + n * 3, none⟩)) ?_ ?_
            · intro ρ W hk hC
              simp only [seen, obOp, List.getD_cons_zero, List.getD_cons_succ]
              rintro h63 h64 h56
              refine ⟨fun _ => ?_, fun hn => absurd h56 hn⟩
              exact rel_value (by simp [go_sem, h63, h64, hnl]) hC
            refine ob_det (c := .pointer (some ⟨eb, eo + n * 3, none⟩)) ?_ ?_
            · intro ρ W hk hC
              simp only [seen, obOp, List.getD_cons_zero, List.getD_cons_succ]
              rintro h65 h56
              refine ⟨fun _ => ?_, fun hn => absurd h56 hn⟩
              exact rel_value (by simp [go_sem, h65]) hC
            refine ob_det (c := .pointer (some ⟨eb, eo + n * 3, none⟩)) ?_ ?_
            · intro ρ W hk hC
              simp only [seen, obOp, List.getD_cons_zero, List.getD_cons_succ]
              rintro h66 h56
              refine ⟨fun _ => ?_, fun hn => absurd h56 hn⟩
              exact rel_value (by simp [go_sem, h66]) hC
            refine ob_det (c := .int .i64 ys) ?_ ?_
            · intro ρ W hk hC
              simp only [seen, obOp, List.getD_cons_zero, List.getD_cons_succ]
              rintro h67 h56
              refine ⟨fun _ => ?_, fun hn => absurd h56 hn⟩
              exact rel_value (by simp [go_sem, h67, e0 W hC]) hC
            refine ob_det (c := .bool true) ?_ ?_
            · intro ρ W hk hC
              simp only [seen, obOp, List.getD_cons_zero, List.getD_cons_succ]
              rintro h61 h68 h56
              refine ⟨fun _ => ?_, fun hn => absurd h56 hn⟩
              exact rel_value (by simp [go_sem, h61, h68]) hC
            refine ob_det (c := .bool true) ?_ ?_
            · intro ρ W hk hC
              simp only [seen, obOp, List.getD_cons_zero, List.getD_cons_succ]
              rintro h56 h69
              exact rel_value (by simp [go_sem, h56, h69, hk.const]) hC
            intro vs w5 hC5
            simp only [endSeen, List.getD_cons_zero]
            intro h70
            simp only [writeAll, List.setIfInBounds_toArray, List.set_cons_zero, List.set_cons_succ, h70]
            have HB5 := Lib.hid (bchain HI.out.1 hC5)
            clear hC5
            go_wp2
            go_ret
            exact ⟨rfl, HB5.out⟩
        have HQ2 := Lib.hid hq
        clear hq
        focus
          refine wp_region_rel_below [([(2, none)], none), ([(5, none)], none), ([(41, some 1), (42, some 0)], none), ([(6, none)], none), ([(7, none)], none), ([(44, some 1), (45, some 0)], none), ([(46, some 0)], none), ([(47, some 0)], none), ([(6, none)], none), ([(7, none)], none), ([(49, some 1), (50, some 0)], none), ([(51, some 0)], none), ([(52, some 0)], none), ([(48, some 5), (53, some 0)], none), ([(43, some 11), (54, some 0)], none), ([(55, some 0)], none), ([(6, none), (56, some 0)], some (56, false)), ([(7, none), (56, some 1)], some (56, false)), ([(57, some 1), (58, some 0), (56, some 2)], some (56, false)), ([(59, some 0), (56, some 3)], some (56, false)), ([(60, some 0), (56, some 4)], some (56, false)), ([(2, none), (56, some 5)], some (56, false)), ([(62, some 0), (56, some 6)], some (56, false)), ([(1, none), (56, some 7)], some (56, false)), ([(63, some 1), (64, some 0), (56, some 8)], some (56, false)), ([(65, some 0), (56, some 9)], some (56, false)), ([(66, some 0), (56, some 10)], some (56, false)), ([(67, some 0), (56, some 11)], some (56, false)), ([(61, some 7), (68, some 0), (56, some 12)], some (56, false)), ([(56, some 13), (69, some 0)], none)] [(0, 70)] (by kernel_rfl) (by kernel_rfl) ?_
          refine ob_det (c := .agg #[.slice a0 L.secs.length p0, .slice a1 L.sigs.length p1, .slice (some ⟨eb, eo, none⟩) L.exits.length p2, .slice a3 L.flanks.length p3, .int .i64 L.t0, .int .i64 L.t1, .int .i64 L.t2, .int .i64 L.t3, .int .i64 L.t4, .int .i64 L.t5, .int .i64 L.t6]) ?_ ?_
          · intro ρ W hk hC
            simp only [seen, obOp]
            rintro h2
            replace h2 : ρ (.tmp 2) = .pointer (some ⟨w.heap.size, 0, none⟩) := h2.trans rfl
            exact rel_value (runLoad h2 (HBX.out.below hC)) hC
          refine ob_det (c := .agg #[.int .i64 s, .int .i64 q]) ?_ ?_
          · intro ρ W hk hC
            simp only [seen, obOp]
            rintro h5
            replace h5 : ρ (.tmp 5) = .pointer (some ⟨g5, 0, none⟩) := h5.trans rfl
            exact rel_value (by simp [go_sem, h5, x0 W hC, x1 W hC]) hC
          refine ob_det (c := .agg #[.int .i64 bs, .int .i64 bp]) ?_ ?_
          · intro ρ W hk hC
            simp only [seen, obOp, List.getD_cons_zero, List.getD_cons_succ]
            rintro h41 h42
            exact rel_call (f := 17) (args := #[.agg #[.slice a0 L.secs.length p0, .slice a1 L.sigs.length p1, .slice (some ⟨eb, eo, none⟩) L.exits.length p2, .slice a3 L.flanks.length p3, .int .i64 L.t0, .int .i64 L.t1, .int .i64 L.t2, .int .i64 L.t3, .int .i64 L.t4, .int .i64 L.t5, .int .i64 L.t6], .agg #[.int .i64 s, .int .i64 q]]) (by simp [go_sem, h41, h42, hk.func]) hC (HY.out W hC)
          refine ob_det (c := .slice (some ⟨b, off, none⟩) len vc) ?_ ?_
          · intro ρ W hk hC
            simp only [seen, obOp]
            rintro h6
            replace h6 : ρ (.tmp 6) = .slice (some ⟨b, off, none⟩) len vc := h6.trans rfl
            exact rel_value (by simp [go_sem, h6]) hC
          refine ob_det (c := .int .i64 (k : Nat)) ?_ ?_
          · intro ρ W hk hC
            simp only [seen, obOp]
            rintro h7
            replace h7 : ρ (.tmp 7) = .int .i64 (k : Nat) := h7.trans rfl
            exact rel_value (by simp [go_sem, h7]) hC
          refine ob_det (c := .pointer (some ⟨b, off + k * 3, none⟩)) ?_ ?_
          · intro ρ W hk hC
            simp only [seen, obOp, List.getD_cons_zero, List.getD_cons_succ]
            rintro h44 h45
            exact rel_value (by simp [go_sem, h44, h45, hkl]) hC
          refine ob_det (c := .pointer (some ⟨b, off + k * 3, none⟩)) ?_ ?_
          · intro ρ W hk hC
            simp only [seen, obOp, List.getD_cons_zero]
            rintro h46
            exact rel_value (by simp [go_sem, h46]) hC
          refine ob_det (c := .int .i64 ys) ?_ ?_
          · intro ρ W hk hC
            simp only [seen, obOp, List.getD_cons_zero]
            rintro h47
            exact rel_value (by simp [go_sem, h47, z0 W hC]) hC
          refine ob_det (c := .slice (some ⟨b, off, none⟩) len vc) ?_ ?_
          · intro ρ W hk hC
            simp only [seen, obOp]
            rintro h6
            replace h6 : ρ (.tmp 6) = .slice (some ⟨b, off, none⟩) len vc := h6.trans rfl
            exact rel_value (by simp [go_sem, h6]) hC
          refine ob_det (c := .int .i64 (k : Nat)) ?_ ?_
          · intro ρ W hk hC
            simp only [seen, obOp]
            rintro h7
            replace h7 : ρ (.tmp 7) = .int .i64 (k : Nat) := h7.trans rfl
            exact rel_value (by simp [go_sem, h7]) hC
          refine ob_det (c := .pointer (some ⟨b, off + k * 3, none⟩)) ?_ ?_
          · intro ρ W hk hC
            simp only [seen, obOp, List.getD_cons_zero, List.getD_cons_succ]
            rintro h49 h50
            exact rel_value (by simp [go_sem, h49, h50, hkl]) hC
          refine ob_det (c := .pointer (some ⟨b, off + k * 3 + 1, none⟩)) ?_ ?_
          · intro ρ W hk hC
            simp only [seen, obOp, List.getD_cons_zero]
            rintro h51
            exact rel_value (by simp [go_sem, h51]) hC
          refine ob_det (c := .int .i64 yi) ?_ ?_
          · intro ρ W hk hC
            simp only [seen, obOp, List.getD_cons_zero]
            rintro h52
            exact rel_value (by simp [go_sem, h52, z1 W hC]) hC
          refine ob_det (c := .agg #[.int .i64 ys, .int .i64 yi]) ?_ ?_
          · intro ρ W hk hC
            simp only [seen, obOp, List.getD_cons_zero, List.getD_cons_succ]
            rintro h48 h53
            exact rel_value (by simp [go_sem, h48, h53]) hC
          refine ob_det (c := .bool false) ?_ ?_
          · intro ρ W hk hC
            simp only [seen, obOp, List.getD_cons_zero, List.getD_cons_succ]
            rintro h43 h54
            exact rel_value (by simp [go_sem, h43, h54, hqE]) hC
          refine ob_det (c := .bool false) ?_ ?_
          · intro ρ W hk hC
            simp only [seen, obOp, List.getD_cons_zero]
            rintro h55
            exact rel_value (by simp [go_sem, h55]) hC
          refine ob_det (c := .slice (some ⟨b, off, none⟩) len vc) ?_ ?_
          · intro ρ W hk hC
            simp only [seen, obOp, List.getD_cons_zero]
            rintro h6 h56
            replace h6 : ρ (.tmp 6) = .slice (some ⟨b, off, none⟩) len vc := h6.trans rfl
            refine ⟨fun _ => ?_, fun hn => absurd h56 hn⟩
            exact rel_value (by simp [go_sem, h6]) hC
          refine ob_det (c := .int .i64 (k : Nat)) ?_ ?_
          · intro ρ W hk hC
            simp only [seen, obOp, List.getD_cons_zero, List.getD_cons_succ]
            rintro h7 h56
            replace h7 : ρ (.tmp 7) = .int .i64 (k : Nat) := h7.trans rfl
            refine ⟨fun _ => ?_, fun hn => absurd h56 hn⟩
            exact rel_value (by simp [go_sem, h7]) hC
          refine ob_det (c := .pointer (some ⟨b, off + k * 3, none⟩)) ?_ ?_
          · intro ρ W hk hC
            simp only [seen, obOp, List.getD_cons_zero, List.getD_cons_succ]
            rintro h57 h58 h56
            refine ⟨fun _ => ?_, fun hn => absurd h56 hn⟩
            exact rel_value (by simp [go_sem, h57, h58, hkl]) hC
          refine ob_det (c := .pointer (some ⟨b, off + k * 3, none⟩)) ?_ ?_
          · intro ρ W hk hC
            simp only [seen, obOp, List.getD_cons_zero, List.getD_cons_succ]
            rintro h59 h56
            refine ⟨fun _ => ?_, fun hn => absurd h56 hn⟩
            exact rel_value (by simp [go_sem, h59]) hC
          refine ob_det (c := .int .i64 ys) ?_ ?_
          · intro ρ W hk hC
            simp only [seen, obOp, List.getD_cons_zero, List.getD_cons_succ]
            rintro h60 h56
            refine ⟨fun _ => ?_, fun hn => absurd h56 hn⟩
            exact rel_value (by simp [go_sem, h60, z0 W hC]) hC
          refine ob_det (c := .pointer (some ⟨w.heap.size, 2, none⟩)) ?_ ?_
          · intro ρ W hk hC
            simp only [seen, obOp, List.getD_cons_zero, List.getD_cons_succ]
            rintro h2 h56
            replace h2 : ρ (.tmp 2) = .pointer (some ⟨w.heap.size, 0, none⟩) := h2.trans rfl
            refine ⟨fun _ => ?_, fun hn => absurd h56 hn⟩
            exact rel_value (by simp [go_sem, h2]) hC
          refine ob_det (c := .slice (some ⟨eb, eo, none⟩) L.exits.length p2) ?_ ?_
          · intro ρ W hk hC
            simp only [seen, obOp, List.getD_cons_zero, List.getD_cons_succ]
            rintro h62 h56
            refine ⟨fun _ => ?_, fun hn => absurd h56 hn⟩
            exact rel_value (by simp [go_sem, h62, c2 W hC]) hC
          refine ob_det (c := .int .i64 (n : Nat)) ?_ ?_
          · intro ρ W hk hC
            simp only [seen, obOp, List.getD_cons_zero, List.getD_cons_succ]
            rintro h1 h56
            replace h1 : ρ (.tmp 1) = .int .i64 (n : Nat) := h1.trans rfl
            refine ⟨fun _ => ?_, fun hn => absurd h56 hn⟩
            exact rel_value (by simp [go_sem, h1]) hC
          refine ob_det (c := .pointer (some ⟨eb, eo + n * 3, none⟩)) ?_ ?_
          · intro ρ W hk hC
            simp only [seen, obOp, List.getD_cons_zero, List.getD_cons_succ]
            rintro h63 h64 h56
            refine ⟨fun _ => ?_, fun hn => absurd h56 hn⟩
            exact rel_value (by simp [go_sem, h63, h64, hnl]) hC
          refine ob_det (c := .pointer (some ⟨eb, eo + n * 3, none⟩)) ?_ ?_
          · intro ρ W hk hC
            simp only [seen, obOp, List.getD_cons_zero, List.getD_cons_succ]
            rintro h65 h56
            refine ⟨fun _ => ?_, fun hn => absurd h56 hn⟩
            exact rel_value (by simp [go_sem, h65]) hC
          refine ob_det (c := .pointer (some ⟨eb, eo + n * 3, none⟩)) ?_ ?_
          · intro ρ W hk hC
            simp only [seen, obOp, List.getD_cons_zero, List.getD_cons_succ]
            rintro h66 h56
            refine ⟨fun _ => ?_, fun hn => absurd h56 hn⟩
            exact rel_value (by simp [go_sem, h66]) hC
          refine ob_det (c := .int .i64 es) ?_ ?_
          · intro ρ W hk hC
            simp only [seen, obOp, List.getD_cons_zero, List.getD_cons_succ]
            rintro h67 h56
            refine ⟨fun _ => ?_, fun hn => absurd h56 hn⟩
            exact rel_value (by simp [go_sem, h67, e0 W hC]) hC
          refine ob_det (c := .bool false) ?_ ?_
          · intro ρ W hk hC
            simp only [seen, obOp, List.getD_cons_zero, List.getD_cons_succ]
            rintro h61 h68 h56
            refine ⟨fun _ => ?_, fun hn => absurd h56 hn⟩
            exact rel_value (by simp [go_sem, h61, h68, hes]) hC
          refine ob_det (c := .bool false) ?_ ?_
          · intro ρ W hk hC
            simp only [seen, obOp, List.getD_cons_zero, List.getD_cons_succ]
            rintro h56 h69
            exact rel_value (by simp [go_sem, h56, h69, hk.const]) hC
          intro vs w5 hC5
          simp only [endSeen, List.getD_cons_zero]
          intro h70
          simp only [writeAll, List.setIfInBounds_toArray, List.set_cons_zero, List.set_cons_succ, h70]
          have hB5 := bchain HI.out.1 hC5
          have hBX5 := HBX.out.below hC5
          have x05 := x0 _ hC5
          have x15 := x1 _ hC5
          have xf5 := fun o => (hC5.frozen (p := ⟨g5, o, none⟩) l5).trans (HI.out.2.2.2.2 o)
          have HRO := Lib.hid (⟨HROW.out.1.below hC5, HROW.out.2⟩ : _ ∧ _)
          have H5 := Lib.hid (⟨hB5, hBX5, x05, x15, xf5⟩ : _ ∧ _ ∧ _ ∧ _ ∧ _)
          have lbw5 := Nat.lt_of_lt_of_le hbw hC5.size
          clear hC5 hB5 hBX5 x05 x15 xf5 z0 z1 x0 x1 e0 c2 hqE z2' HBX HROW
          go_wp2_with fail
          go_loopw [8] (fun c wi => ∃ i : Nat, i ≤ k ∧ c = .int .i64 i ∧ Hid (Below w5.heap.size w5 wi) ∧ Hid (∀ (j : Nat) (y : Stp), j < i → ov[j]? = some y → y.s ≠ ys)) (fun c _ => k - (intOf c).toNat)
          case atStart => exact ⟨0, Nat.zero_le _, rfl, Lib.hid (Below.refl _ _), Lib.hid (fun j _ hj => absurd hj (Nat.not_lt_zero _))⟩
          case round =>
            obtain ⟨i, hi, rfl, HBi, HN⟩ := hrel
            obtain ⟨wi, rfl⟩ : ∃ wi : World, wi = wr := ⟨_, rfl⟩
            have hrow := HRO.out.1.below HBi.out
            have t0 : wi.cell? ⟨b, off + k * 3, none⟩ = some (.int .i64 ys) := hrow.2 k _ HRO.out.2 0 _ rfl
            have lbi := hrow.1
            have HB6 := Lib.hid (bchain H5.out.1 HBi.out)
            by_cases hlti : i < k
            · obtain ⟨v, hv⟩ : ∃ v, ov[i]? = some v := ⟨ov[i]'(by rw [← HOV.out.1]; omega), List.getElem?_eq_getElem _⟩
              have u0 : wi.cell? ⟨b, off + i * 3, none⟩ = some (.int .i64 v.s) := hrow.2 i _ hv 0 _ rfl
              have HV := Lib.hid hv
              have hil : i < len := by omega
              generalize hvs : v.s = vs0 at u0
              have HVS := Lib.hid hvs
              clear hrow hv hvs
              by_cases hE2 : vs0 = ys
              · subst hE2
                obtain rfl : r = false := by
                  rw [HQ2.out, List.contains_iff_mem.2 ((HSS.out vs0).2 (.inr ⟨i, v, hlti, HV.out, HVS.out⟩))]; rfl
                go_wp2_with fail
                refine wp_region_ext (by kernel_rfl) (by kernel_rfl) fun hxx => ?_
                repeat (go_big_quiet_step (fail))
                refine wpQuiet_nil ?_
                intro w7 b7
                have HB7 := Lib.hid (bchain HB6.out b7)
                clear b7 hxx t0 u0
                go_wp2
                go_ret
                exact ⟨rfl, HB7.out⟩
              · have dE : decide (vs0 = ys) = false := decide_eq_false hE2
                go_wp2_with fail
                refine wp_region_ext (by kernel_rfl) (by kernel_rfl) fun hxx => ?_
                repeat (go_big_quiet_step (fail))
                refine wpQuiet_nil ?_
                intro w7 b7
                have HB7 := Lib.hid (bchain HBi.out b7)
                clear b7 hxx t0 u0 dE
                go_wp2
                go_roundw
                case rel => exact ⟨i + 1, by omega, by go_num, HB7, Lib.hid (fun j y hj hy => by
                  by_cases e : j = i
                  · subst e
                    rw [HV.out] at hy
                    cases hy
                    rw [HVS.out]
                    exact hE2
                  · exact HN.out j y (by omega) hy)⟩
                case measure => simp [intOf]; omega
            · obtain rfl : i = k := by omega
              have t1 : wi.cell? ⟨b, off + i * 3 + 2, none⟩ = some (.int .i64 yo) := hrow.2 i _ HRO.out.2 2 _ rfl
              have hbx6 := H5.out.2.1.below HBi.out
              have l55 := World.block_lt_of_cell? _ _ H5.out.2.2.1
              have l56 : g5 < wi.heap.size := Nat.lt_of_lt_of_le (World.block_lt_of_cell? _ _ H5.out.2.2.1) HBi.out.size
              have x06 := (HBi.out.cell (p := ⟨g5, 0, none⟩) (World.block_lt_of_cell? _ _ H5.out.2.2.1)).trans H5.out.2.2.1
              have x16 := (HBi.out.cell (p := ⟨g5, 1, none⟩) l55).trans H5.out.2.2.2.1
              have xf6 := fun o => (HBi.out.frozen (p := ⟨g5, o, none⟩) l55).trans (H5.out.2.2.2.2 o)
              have HW6 := Lib.hid hbx6
              have hnin : (ss.contains ys) = false := by
                cases hc : ss.contains ys with
                | false => rfl
                | true =>
                  rcases (HSS.out ys).1 (List.contains_iff_mem.1 hc) with h | ⟨j, y, hj, hy, hs⟩
                  · exact absurd h hes
                  · exact absurd hs (HN.out j y hj hy)
              have hq3 := HQ2.out
              rw [hnin, Bool.not_false, Bool.true_and] at hq3
              have HQ3 := Lib.hid hq3
              have xf0 := xf6 0
              have xf1 := xf6 1
              clear hbx6 hrow hnin hq3
              go_wp2_with fail
              go_still_tail 11, (by kernel_rfl)
              obtain ⟨D, hD⟩ : ∃ D, D = wi.drew := ⟨_, rfl⟩
              have hBD : Below wi.heap.size wi D := by rw [hD]; exact (Below.refl _ _).drew
              rw [show ({ heap := wi.heap, tape := wi.tape, drawn := wi.drawn + 1, os := wi.os, output := wi.output } : World) = D from hD.symm]
              replace x06 := (hBD.cell (p := ⟨g5, 0, none⟩) l56).trans x06
              replace x16 := (hBD.cell (p := ⟨g5, 1, none⟩) l56).trans x16
              replace xf0 := (hBD.frozen (p := ⟨g5, 0, none⟩) l56).trans xf0
              replace xf1 := (hBD.frozen (p := ⟨g5, 1, none⟩) l56).trans xf1
              have hBXD := HW6.out.below hBD
              have hwD := bchain HB6.out hBD
              have l5D : g5 < D.heap.size := Nat.lt_of_lt_of_le l56 hBD.size
              have HD := Lib.hid (⟨hBXD, hwD, fun o => (hBD.frozen (p := ⟨g5, o, none⟩) l56).trans (xf6 o)⟩ : _ ∧ _ ∧ _)
              clear hD hBD xf6 hBXD hwD t0 t1 l55 l56
              go_wp2
              have hfin : Below w.heap.size w ((D.setCell ⟨g5, 0, none⟩ (.int .i64 ys)).setCell ⟨g5, 1, none⟩ (.int .i64 yo)) := (HD.out.2.1.setCell (p := ⟨g5, 0, none⟩) (by dsimp only; omega) _).setCell (p := ⟨g5, 1, none⟩) (by dsimp only; omega) _
              have hfbx : BoxL ((D.setCell ⟨g5, 0, none⟩ (.int .i64 ys)).setCell ⟨g5, 1, none⟩ (.int .i64 yo)) w.heap.size L ⟨a0, a1, some ⟨eb, eo, none⟩, a3, p0, p1, p2, p3⟩ := (HD.out.1.set (by omega)).set (by omega)
              have hff : ∀ o, ((D.setCell ⟨g5, 0, none⟩ (.int .i64 ys)).setCell ⟨g5, 1, none⟩ (.int .i64 yo)).frozen? ⟨g5, o, none⟩ = false := fun o => by rw [World.frozen?_setCell, World.frozen?_setCell]; exact HD.out.2.2 o
              go_roundw
              case rel => exact ⟨i + 1, ys, yo, ys :: ss, by omega, by go_num, Lib.hid ⟨hfin, hfbx, by simp [go_sem, x06], by simp [go_sem, x16], hff⟩, HQ3, Lib.hid (fun z => by
                rw [List.mem_cons, HSS.out]
                constructor
                · rintro (rfl | h | ⟨j, y, hj, hy, hs⟩)
                  · exact .inr ⟨i, _, by omega, HRO.out.2, rfl⟩
                  · exact .inl h
                  · exact .inr ⟨j, y, by omega, hy, hs⟩
                · rintro (h | ⟨j, y, hj, hy, hs⟩)
                  · exact .inr (.inl h)
                  · by_cases e : j = i
                    · subst e
                      rw [HRO.out.2] at hy
                      cases hy
                      exact .inl hs.symm
                    · exact .inr (.inr ⟨j, y, by omega, hy, hs⟩))⟩
              case measure => simp [intOf]; omega
      · have hqE : ∀ V', (Op.equalIn 10000 37 (.agg #[.int .i64 bs, .int .i64 bp]) (.agg #[.int .i64 ys, .int .i64 yi])).run Tryd.prog V' = .ok false V' := fun V' => by rw [eqQ_portI, decide_eq_false hE]
        have hnE : decide ((⟨bs, bp⟩ : Prt) = ⟨ys, yi⟩) = false := decide_eq_false (fun h => hE (by cases h; exact ⟨rfl, rfl⟩))
        obtain rfl : r = false := by rw [hq, hnE]; rfl
        clear hq hE hnE z2'
        focus
          refine wp_region_rel_below [([(2, none)], none), ([(5, none)], none), ([(41, some 1), (42, some 0)], none), ([(6, none)], none), ([(7, none)], none), ([(44, some 1), (45, some 0)], none), ([(46, some 0)], none), ([(47, some 0)], none), ([(6, none)], none), ([(7, none)], none), ([(49, some 1), (50, some 0)], none), ([(51, some 0)], none), ([(52, some 0)], none), ([(48, some 5), (53, some 0)], none), ([(43, some 11), (54, some 0)], none), ([(55, some 0)], none), ([(6, none), (56, some 0)], some (56, false)), ([(7, none), (56, some 1)], some (56, false)), ([(57, some 1), (58, some 0), (56, some 2)], some (56, false)), ([(59, some 0), (56, some 3)], some (56, false)), ([(60, some 0), (56, some 4)], some (56, false)), ([(2, none), (56, some 5)], some (56, false)), ([(62, some 0), (56, some 6)], some (56, false)), ([(1, none), (56, some 7)], some (56, false)), ([(63, some 1), (64, some 0), (56, some 8)], some (56, false)), ([(65, some 0), (56, some 9)], some (56, false)), ([(66, some 0), (56, some 10)], some (56, false)), ([(67, some 0), (56, some 11)], some (56, false)), ([(61, some 7), (68, some 0), (56, some 12)], some (56, false)), ([(56, some 13), (69, some 0)], none)] [(0, 70)] (by kernel_rfl) (by kernel_rfl) ?_
          refine ob_det (c := .agg #[.slice a0 L.secs.length p0, .slice a1 L.sigs.length p1, .slice (some ⟨eb, eo, none⟩) L.exits.length p2, .slice a3 L.flanks.length p3, .int .i64 L.t0, .int .i64 L.t1, .int .i64 L.t2, .int .i64 L.t3, .int .i64 L.t4, .int .i64 L.t5, .int .i64 L.t6]) ?_ ?_
          · intro ρ W hk hC
            simp only [seen, obOp]
            rintro h2
            replace h2 : ρ (.tmp 2) = .pointer (some ⟨w.heap.size, 0, none⟩) := h2.trans rfl
            exact rel_value (runLoad h2 (HBX.out.below hC)) hC
          refine ob_det (c := .agg #[.int .i64 s, .int .i64 q]) ?_ ?_
          · intro ρ W hk hC
            simp only [seen, obOp]
            rintro h5
            replace h5 : ρ (.tmp 5) = .pointer (some ⟨g5, 0, none⟩) := h5.trans rfl
            exact rel_value (by simp [go_sem, h5, x0 W hC, x1 W hC]) hC
          refine ob_det (c := .agg #[.int .i64 bs, .int .i64 bp]) ?_ ?_
          · intro ρ W hk hC
            simp only [seen, obOp, List.getD_cons_zero, List.getD_cons_succ]
            rintro h41 h42
            exact rel_call (f := 17) (args := #[.agg #[.slice a0 L.secs.length p0, .slice a1 L.sigs.length p1, .slice (some ⟨eb, eo, none⟩) L.exits.length p2, .slice a3 L.flanks.length p3, .int .i64 L.t0, .int .i64 L.t1, .int .i64 L.t2, .int .i64 L.t3, .int .i64 L.t4, .int .i64 L.t5, .int .i64 L.t6], .agg #[.int .i64 s, .int .i64 q]]) (by simp [go_sem, h41, h42, hk.func]) hC (HY.out W hC)
          refine ob_det (c := .slice (some ⟨b, off, none⟩) len vc) ?_ ?_
          · intro ρ W hk hC
            simp only [seen, obOp]
            rintro h6
            replace h6 : ρ (.tmp 6) = .slice (some ⟨b, off, none⟩) len vc := h6.trans rfl
            exact rel_value (by simp [go_sem, h6]) hC
          refine ob_det (c := .int .i64 (k : Nat)) ?_ ?_
          · intro ρ W hk hC
            simp only [seen, obOp]
            rintro h7
            replace h7 : ρ (.tmp 7) = .int .i64 (k : Nat) := h7.trans rfl
            exact rel_value (by simp [go_sem, h7]) hC
          refine ob_det (c := .pointer (some ⟨b, off + k * 3, none⟩)) ?_ ?_
          · intro ρ W hk hC
            simp only [seen, obOp, List.getD_cons_zero, List.getD_cons_succ]
            rintro h44 h45
            exact rel_value (by simp [go_sem, h44, h45, hkl]) hC
          refine ob_det (c := .pointer (some ⟨b, off + k * 3, none⟩)) ?_ ?_
          · intro ρ W hk hC
            simp only [seen, obOp, List.getD_cons_zero]
            rintro h46
            exact rel_value (by simp [go_sem, h46]) hC
          refine ob_det (c := .int .i64 ys) ?_ ?_
          · intro ρ W hk hC
            simp only [seen, obOp, List.getD_cons_zero]
            rintro h47
            exact rel_value (by simp [go_sem, h47, z0 W hC]) hC
          refine ob_det (c := .slice (some ⟨b, off, none⟩) len vc) ?_ ?_
          · intro ρ W hk hC
            simp only [seen, obOp]
            rintro h6
            replace h6 : ρ (.tmp 6) = .slice (some ⟨b, off, none⟩) len vc := h6.trans rfl
            exact rel_value (by simp [go_sem, h6]) hC
          refine ob_det (c := .int .i64 (k : Nat)) ?_ ?_
          · intro ρ W hk hC
            simp only [seen, obOp]
            rintro h7
            replace h7 : ρ (.tmp 7) = .int .i64 (k : Nat) := h7.trans rfl
            exact rel_value (by simp [go_sem, h7]) hC
          refine ob_det (c := .pointer (some ⟨b, off + k * 3, none⟩)) ?_ ?_
          · intro ρ W hk hC
            simp only [seen, obOp, List.getD_cons_zero, List.getD_cons_succ]
            rintro h49 h50
            exact rel_value (by simp [go_sem, h49, h50, hkl]) hC
          refine ob_det (c := .pointer (some ⟨b, off + k * 3 + 1, none⟩)) ?_ ?_
          · intro ρ W hk hC
            simp only [seen, obOp, List.getD_cons_zero]
            rintro h51
            exact rel_value (by simp [go_sem, h51]) hC
          refine ob_det (c := .int .i64 yi) ?_ ?_
          · intro ρ W hk hC
            simp only [seen, obOp, List.getD_cons_zero]
            rintro h52
            exact rel_value (by simp [go_sem, h52, z1 W hC]) hC
          refine ob_det (c := .agg #[.int .i64 ys, .int .i64 yi]) ?_ ?_
          · intro ρ W hk hC
            simp only [seen, obOp, List.getD_cons_zero, List.getD_cons_succ]
            rintro h48 h53
            exact rel_value (by simp [go_sem, h48, h53]) hC
          refine ob_det (c := .bool true) ?_ ?_
          · intro ρ W hk hC
            simp only [seen, obOp, List.getD_cons_zero, List.getD_cons_succ]
            rintro h43 h54
            exact rel_value (by simp [go_sem, h43, h54, hqE]) hC
          refine ob_det (c := .bool true) ?_ ?_
          · intro ρ W hk hC
            simp only [seen, obOp, List.getD_cons_zero]
            rintro h55
            exact rel_value (by simp [go_sem, h55]) hC
          refine ob_det (c := undef) ?_ ?_
          · intro ρ W hk hC
            simp only [seen, obOp, List.getD_cons_zero]
            rintro h6 h56
            replace h6 : ρ (.tmp 6) = .slice (some ⟨b, off, none⟩) len vc := h6.trans rfl
            exact ⟨fun h => absurd (h.symm.trans h56) (by first | simp | simp [undef]), fun _ => by trivial⟩
          refine ob_det (c := undef) ?_ ?_
          · intro ρ W hk hC
            simp only [seen, obOp, List.getD_cons_zero, List.getD_cons_succ]
            rintro h7 h56
            replace h7 : ρ (.tmp 7) = .int .i64 (k : Nat) := h7.trans rfl
            exact ⟨fun h => absurd (h.symm.trans h56) (by first | simp | simp [undef]), fun _ => by trivial⟩
          refine ob_det (c := undef) ?_ ?_
          · intro ρ W hk hC
            simp only [seen, obOp, List.getD_cons_zero, List.getD_cons_succ]
            rintro h57 h58 h56
            exact ⟨fun h => absurd (h.symm.trans h56) (by first | simp | simp [undef]), fun _ => by trivial⟩
          refine ob_det (c := undef) ?_ ?_
          · intro ρ W hk hC
            simp only [seen, obOp, List.getD_cons_zero, List.getD_cons_succ]
            rintro h59 h56
            exact ⟨fun h => absurd (h.symm.trans h56) (by first | simp | simp [undef]), fun _ => by trivial⟩
          refine ob_det (c := undef) ?_ ?_
          · intro ρ W hk hC
            simp only [seen, obOp, List.getD_cons_zero, List.getD_cons_succ]
            rintro h60 h56
            exact ⟨fun h => absurd (h.symm.trans h56) (by first | simp | simp [undef]), fun _ => by trivial⟩
          refine ob_det (c := undef) ?_ ?_
          · intro ρ W hk hC
            simp only [seen, obOp, List.getD_cons_zero, List.getD_cons_succ]
            rintro h2 h56
            replace h2 : ρ (.tmp 2) = .pointer (some ⟨w.heap.size, 0, none⟩) := h2.trans rfl
            exact ⟨fun h => absurd (h.symm.trans h56) (by first | simp | simp [undef]), fun _ => by trivial⟩
          refine ob_det (c := undef) ?_ ?_
          · intro ρ W hk hC
            simp only [seen, obOp, List.getD_cons_zero, List.getD_cons_succ]
            rintro h62 h56
            exact ⟨fun h => absurd (h.symm.trans h56) (by first | simp | simp [undef]), fun _ => by trivial⟩
          refine ob_det (c := undef) ?_ ?_
          · intro ρ W hk hC
            simp only [seen, obOp, List.getD_cons_zero, List.getD_cons_succ]
            rintro h1 h56
            replace h1 : ρ (.tmp 1) = .int .i64 (n : Nat) := h1.trans rfl
            exact ⟨fun h => absurd (h.symm.trans h56) (by first | simp | simp [undef]), fun _ => by trivial⟩
          refine ob_det (c := undef) ?_ ?_
          · intro ρ W hk hC
            simp only [seen, obOp, List.getD_cons_zero, List.getD_cons_succ]
            rintro h63 h64 h56
            exact ⟨fun h => absurd (h.symm.trans h56) (by first | simp | simp [undef]), fun _ => by trivial⟩
          refine ob_det (c := undef) ?_ ?_
          · intro ρ W hk hC
            simp only [seen, obOp, List.getD_cons_zero, List.getD_cons_succ]
            rintro h65 h56
            exact ⟨fun h => absurd (h.symm.trans h56) (by first | simp | simp [undef]), fun _ => by trivial⟩
          refine ob_det (c := undef) ?_ ?_
          · intro ρ W hk hC
            simp only [seen, obOp, List.getD_cons_zero, List.getD_cons_succ]
            rintro h66 h56
            exact ⟨fun h => absurd (h.symm.trans h56) (by first | simp | simp [undef]), fun _ => by trivial⟩
          refine ob_det (c := undef) ?_ ?_
          · intro ρ W hk hC
            simp only [seen, obOp, List.getD_cons_zero, List.getD_cons_succ]
            rintro h67 h56
            exact ⟨fun h => absurd (h.symm.trans h56) (by first | simp | simp [undef]), fun _ => by trivial⟩
          refine ob_det (c := undef) ?_ ?_
          · intro ρ W hk hC
            simp only [seen, obOp, List.getD_cons_zero, List.getD_cons_succ]
            rintro h61 h68 h56
            exact ⟨fun h => absurd (h.symm.trans h56) (by first | simp | simp [undef]), fun _ => by trivial⟩
          refine ob_det (c := .bool true) ?_ ?_
          · intro ρ W hk hC
            simp only [seen, obOp, List.getD_cons_zero, List.getD_cons_succ]
            rintro h56 h69
            exact rel_value (by simp [go_sem, h56, h69, hk.const]) hC
          intro vs w5 hC5
          simp only [endSeen, List.getD_cons_zero]
          intro h70
          simp only [writeAll, List.setIfInBounds_toArray, List.set_cons_zero, List.set_cons_succ, h70]
          have HB5 := Lib.hid (bchain HI.out.1 hC5)
          clear hC5
          go_wp2
          go_ret
          exact ⟨rfl, HB5.out⟩
    · obtain rfl : k = len := by omega
      obtain rfl : r = true := by
        rw [HQ.out, List.drop_of_length_le (by rw [← HOV.out.1]; exact Nat.le_refl _)]
        rfl
      go_wp2
      go_ret
      exact ⟨rfl, HI.out.1⟩

set_option maxRecDepth 100000 in
set_option maxHeartbeats 4000000 in
theorem rOvers_any (L : Lay) (P : Where) (w : World) (hL : LayAt w P L) (hR : rightL L = true) :
    Calls Tryd.prog 25 #[L.val P] w fun e w' => e = .returned (.int .i64 (idxOf' (fun x => !overOk L x) L.exits)) ∧ Below w.heap.size w w' := by
  have HX := Lib.hid (⟨fun n x => idx_hit (p := fun x => !overOk L x) (xs := L.exits) (n := n) (x := x), idx_miss (p := fun x => !overOk L x) (xs := L.exits)⟩ : _ ∧ _)
  generalize idxOf' (fun x => !overOk L x) L.exits = r at HX
  have m2 : L.exits.length ≤ 9223372036854775807 := Nat.le_trans hL.l2.1 hL.l2.2
  have hcall := fun W (hb : Below w.heap.size w W) (n : Nat) => rOver_any L P (n : Nat) W (hL.below hb)
  obtain ⟨a0, a1, a2, a3, p0, p1, p2, p3⟩ := P
  unfold Lay.val at hcall ⊢
  have HC := Lib.hid hcall
  have HRT := Lib.hid hR
  clear hcall hL hR
  go_enter Tryd.func25, Tryd.ntmps25
  go_wp2_with fail
  obtain ⟨X, hX⟩ : ∃ X, X = w.alloc (.cells #[.slice a0 L.secs.length p0, .slice a1 L.sigs.length p1, .slice a2 L.exits.length p2, .slice a3 L.flanks.length p3, .int .i64 L.t0, .int .i64 L.t1, .int .i64 L.t2, .int .i64 L.t3, .int .i64 L.t4, .int .i64 L.t5, .int .i64 L.t6] 29) := ⟨_, rfl⟩
  have hBX : Below w.heap.size w X := by rw [hX]; exact bself
  have hBL : BoxL X w.heap.size L ⟨a0, a1, a2, a3, p0, p1, p2, p3⟩ := by rw [hX]; exact BoxL.make (L := L) (p := ⟨a0, a1, a2, a3, p0, p1, p2, p3⟩) _ rfl
  rw [← hX]
  have HB := Lib.hid (⟨hBX, hBL⟩ : _ ∧ _)
  clear hX hBX hBL
  go_loopw [3] (fun c wr => ∃ n : Nat, n ≤ L.exits.length ∧ c = .int .i64 n ∧ Hid (Below X.heap.size X wr) ∧ Hid (∀ j, j < n → ∀ y, L.exits[j]? = some y → (!overOk L y) = false)) (fun c _ => L.exits.length - (intOf c).toNat)
  case atStart => exact ⟨0, Nat.zero_le _, rfl, Lib.hid (Below.refl _ _), Lib.hid (fun j hj => absurd hj (Nat.not_lt_zero _))⟩
  case round =>
    obtain ⟨n, hn, rfl, HW, HJ⟩ := hrel
    have hbx := HB.out.2.below HW.out
    obtain ⟨c0, c1, c2, c3, c4, c5, c6, c7, c8, c9, c10⟩ := hbx.cells
    have lg := hbx.1
    dsimp only at c0 c1 c2 c3
    clear hbx
    by_cases hlt : n < L.exits.length
    · obtain ⟨x, hx⟩ : ∃ x, L.exits[n]? = some x := ⟨_, List.getElem?_eq_getElem hlt⟩
      have hc := HC.out _ (bchain HB.out.1 HW.out) n
      have e : overX L (n : Nat) = overOk L x := by
        unfold overX
        rw [HRT.out, Bool.true_and, if_pos (by omega), Int.toNat_natCast, hx]
      rw [e] at hc
      obtain ⟨q, hq⟩ : ∃ q, q = overOk L x := ⟨_, rfl⟩
      rw [← hq] at hc
      have HCC := Lib.hid hc
      have HQ := Lib.hid (⟨hx, hq⟩ : _ ∧ _)
      clear hc hx hq e
      go_wp2_with fail
      (with_reducible refine HCC.out.mono ?_)
      rintro e w1 ⟨rfl, b1⟩
      have HB1 := Lib.hid (bchain HW.out b1)
      clear b1 c0 c1 c2 c3 c4 c5 c6 c7 c8 c9 c10 lg HCC
      cases q with
      | false =>
        go_wp2
        go_ret
        obtain rfl := HX.out.1 n x HQ.out.1 (by rw [← HQ.out.2]; rfl) HJ.out
        exact ⟨rfl, bchain HB.out.1 HB1.out⟩
      | true =>
        go_wp2
        go_roundw
        case rel =>
          refine ⟨n + 1, by omega, by go_num, HB1, Lib.hid (fun j hj z hz => ?_)⟩
          by_cases e : j = n
          · subst e
            rw [HQ.out.1] at hz
            cases hz
            rw [← HQ.out.2]
            rfl
          · exact HJ.out j (by omega) z hz
        case measure => simp [intOf]; omega
    · obtain rfl : n = L.exits.length := by omega
      go_wp2
      go_ret
      obtain rfl := HX.out.2 HJ.out
      exact ⟨rfl, bchain HB.out.1 HW.out⟩
end Go.Proofs.YtmnkgnoljllnnaaDoor

/-
  lockbarref09.Check, Right.
-/
namespace Go.Proofs.YtmnkgnoljllnnaaDoor
open Go.RowKit Go.Shelf

/-- A variable that the region has made, with what it holds. -/
def IsNew (U : World) (cs : Array Value) (v : Value) (w : World) : Prop := ∃ b, v = .pointer (some ⟨b, 0, none⟩) ∧ U.heap.size ≤ b ∧ b < w.heap.size ∧ (∀ i, w.cell? ⟨b, i, none⟩ = cs[i]?) ∧ ∀ i, w.frozen? ⟨b, i, none⟩ = false
theorem IsNew.step {U W W' : World} {cs : Array Value} {v : Value} (h : IsNew U cs v W) (k : StB W W') : IsNew U cs v W' := by
  obtain ⟨b, e, hb, hl, hc, hf⟩ := h
  exact ⟨b, e, hb, Nat.lt_of_lt_of_le hl k.size, fun i => (k.cell (p := ⟨b, i, none⟩) hl).trans (hc i), fun i => (k.frozen (p := ⟨b, i, none⟩) hl).trans (hf i)⟩
theorem rel_new {P : Program} {U W : World} {r : Result Next} {cs : Array Value} {T : TypeId} (h : r = .ok (.value (.pointer (some ⟨W.heap.size, 0, none⟩))) (W.alloc (.cells cs T))) (hC : ClB U W) : relUpon P (ClB U) StB W (IsNew U cs) r := by
  rw [h]
  have hb : Below W.heap.size W (W.alloc (.cells cs T)) := bself
  exact ⟨hC.step hb, hb, _, rfl, hC.size, by simp, fun i => by rw [World.cell?_alloc_at _ _ _ _ rfl], fun i => by simp [go_sem]⟩

set_option maxRecDepth 100000 in
set_option maxHeartbeats 16000000 in
theorem rCheck_any (L : Lay) (P : Where) (w : World) (hL : LayAt w P L) :
    Calls Tryd.prog 11 #[L.val P] w fun e w' => e = .returned (.tuple #[.int .i64 (checkL L).1, .int .i64 (checkL L).2.1, .int .i64 (checkL L).2.2]) ∧ Below w.heap.size w w' := by
  obtain ⟨cr, hcr⟩ : ∃ cr, cr = checkL L := ⟨_, rfl⟩
  obtain ⟨q, hq⟩ : ∃ q, q = rightL L := ⟨_, rfl⟩
  obtain ⟨q1, hq1⟩ : ∃ q, q = joinedL L := ⟨_, rfl⟩
  have hrt := fun W (hb : Below w.heap.size w W) => rRight_any L P W (hL.below hb)
  have hjn := fun W (hb : Below w.heap.size w W) => rJoined_any L P W (hL.below hb)
  have hs0 := fun W (hb : Below w.heap.size w W) => rsignals_any L P W (hL.below hb)
  have hs1 := fun W (hb : Below w.heap.size w W) => rexits_any L P W (hL.below hb)
  have hs2 := fun (hR : q = true) W (hb : Below w.heap.size w W) => rOvers_any L P W (hL.below hb) (hq ▸ hR)
  have hs3 := fun W (hb : Below w.heap.size w W) => rflanks_any L P W (hL.below hb)
  have h90 : q = true → q1 = false → checkL L = (1, 0, 90) := fun h h1 => by
    have e0 : ruleN L 0 = 0 := by unfold ruleN; rw [← hq1, h1]; rfl
    have := check_hit (L := L) (hq ▸ h) (n := 0) (by omega) (fun j hj => absurd hj (Nat.not_lt_zero _)) (by omega)
    rw [this, e0]
    rfl
  have hn0 : q1 = true → ruleN L 0 < 0 := fun h => by
    have e0 : ruleN L 0 = -1 := by unfold ruleN; rw [← hq1, h]; rfl
    omega
  obtain ⟨v0, hv0⟩ : ∃ v, v = ruleN L 1 := ⟨_, rfl⟩
  obtain ⟨v1, hv1⟩ : ∃ v, v = ruleN L 2 := ⟨_, rfl⟩
  obtain ⟨v2, hv2⟩ : ∃ v, v = ruleN L 3 := ⟨_, rfl⟩
  obtain ⟨v3, hv3⟩ : ∃ v, v = ruleN L 4 := ⟨_, rfl⟩
  rw [← hcr]
  rw [← hq] at hrt
  rw [← hq1] at hjn
  rw [show firstDup (sigP L) L.sigs.length = v0 from hv0.symm] at hs0
  rw [show firstDup (exQ L) L.exits.length = v1 from hv1.symm] at hs1
  rw [show idxOf' (fun x => !overOk L x) L.exits = v2 from hv2.symm] at hs2
  rw [show firstDup (flQ L) L.flanks.length = v3 from hv3.symm] at hs3
  obtain ⟨a0, a1, a2, a3, p0, p1, p2, p3⟩ := P
  unfold Lay.val at hrt hjn hs0 hs1 hs2 hs3 ⊢
  have HRT := Lib.hid (⟨hrt, hjn⟩ : _ ∧ _)
  have HSS := Lib.hid (⟨hs0, hs1, hs2, hs3⟩ : _ ∧ _ ∧ _ ∧ _)
  have HQ := Lib.hid (⟨hq, hq1, hcr, h90, hn0⟩ : _ ∧ _ ∧ _ ∧ _ ∧ _)
  have HV := Lib.hid (⟨hv0, hv1, hv2, hv3⟩ : _ ∧ _ ∧ _ ∧ _)
  clear hrt hjn hs0 hs1 hs2 hs3 hq hq1 hcr h90 hn0 hv0 hv1 hv2 hv3 hL
  go_enter Tryd.func11, Tryd.ntmps11
  go_wp2_with fail
  (with_reducible refine (HRT.out.1 (w.alloc (.cells #[.slice a0 L.secs.length p0, .slice a1 L.sigs.length p1, .slice a2 L.exits.length p2, .slice a3 L.flanks.length p3, .int .i64 L.t0, .int .i64 L.t1, .int .i64 L.t2, .int .i64 L.t3, .int .i64 L.t4, .int .i64 L.t5, .int .i64 L.t6] 29)) bself).mono ?_)
  rintro e w1 ⟨rfl, b1⟩
  have HB1 := Lib.hid (bnew b1)
  cases q with
  | false =>
    clear b1
    obtain rfl : cr = (0, 0, 60) := HQ.out.2.2.1.trans (check_no HQ.out.1.symm)
    go_wp2
    go_ret3
    exact ⟨rfl, HB1.out⟩
  | true =>
    have hbx : BoxL w1 w.heap.size L ⟨a0, a1, a2, a3, p0, p1, p2, p3⟩ := (BoxL.make (L := L) (p := ⟨a0, a1, a2, a3, p0, p1, p2, p3⟩) _ rfl).below b1
    have HBX1 := Lib.hid hbx
    obtain ⟨c0, c1, c2, c3, c4, c5, c6, c7, c8, c9, c10⟩ := hbx.cells
    have lg := hbx.1
    dsimp only at c0 c1 c2 c3
    clear b1 hbx
    go_wp2_with fail
    (with_reducible refine (HRT.out.2 _ HB1.out).mono ?_)
    rintro e X ⟨rfl, b2⟩
    have HG := Lib.hid (⟨bchain HB1.out b2, HBX1.out.below b2⟩ : _ ∧ _)
    clear c0 c1 c2 c3 c4 c5 c6 c7 c8 c9 c10 lg b2
    cases q1 with
    | false =>
      obtain rfl : cr = (1, 0, 90) := HQ.out.2.2.1.trans (HQ.out.2.2.2.1 (by trivial) (by trivial))
      go_wp2
      go_ret3
      exact ⟨rfl, HG.out.1⟩
    | true =>
      have HBX := Lib.hid HG.out.2
      have HS0 := Lib.hid (fun V (h : ClB X V) => HSS.out.1 V (bchain HG.out.1 h))
      have HS1 := Lib.hid (fun V (h : ClB X V) => HSS.out.2.1 V (bchain HG.out.1 h))
      have HS2 := Lib.hid (fun V (h : ClB X V) => HSS.out.2.2.1 (by trivial) V (bchain HG.out.1 h))
      have HS3 := Lib.hid (fun V (h : ClB X V) => HSS.out.2.2.2 V (bchain HG.out.1 h))
      have hn0 := HQ.out.2.2.2.2 (by trivial)
      have HN0 := Lib.hid hn0
      clear hn0
      go_wp2_with fail
      refine (wpIn_wide (n := 5)).1 (wpIn_region_rel_head (.inl rfl) 10 [([(1, none)], none), ([(13, some 0)], none), ([(1, none)], none), ([(15, some 0)], none), ([(1, none)], none), ([(17, some 0)], none), ([(1, none)], none), ([(19, some 0)], none), ([(14, some 6), (16, some 4), (18, some 2), (20, some 0)], none), ([], none)] [(0, 5), (1, 21)] (by kernel_rfl) (by kernel_rfl) (by kernel_rfl) (by kernel_rfl) (by kernel_rfl) (by kernel_rfl) (by kernel_rfl) (by kernel_rfl) ?_)
      simp only [List.take_succ_cons, List.take_zero, List.drop_succ_cons, List.drop_zero]
      refine ob_det (c := .agg #[.slice a0 L.secs.length p0, .slice a1 L.sigs.length p1, .slice a2 L.exits.length p2, .slice a3 L.flanks.length p3, .int .i64 L.t0, .int .i64 L.t1, .int .i64 L.t2, .int .i64 L.t3, .int .i64 L.t4, .int .i64 L.t5, .int .i64 L.t6]) ?_ ?_
      · intro ρ W hk hC
        simp only [seen, obOp]
        rintro h1
        replace h1 : ρ (.tmp 1) = .pointer (some ⟨w.heap.size, 0, none⟩) := h1.trans rfl
        exact rel_value (runLoad h1 (HBX.out.below hC)) hC
      refine ob_det (c := .int .i64 v0) ?_ ?_
      · intro ρ W hk hC
        simp only [seen, obOp, List.getD_cons_zero]
        rintro h13
        exact rel_call (f := 23) (args := #[.agg #[.slice a0 L.secs.length p0, .slice a1 L.sigs.length p1, .slice a2 L.exits.length p2, .slice a3 L.flanks.length p3, .int .i64 L.t0, .int .i64 L.t1, .int .i64 L.t2, .int .i64 L.t3, .int .i64 L.t4, .int .i64 L.t5, .int .i64 L.t6]]) (by simp [go_sem, h13, hk.func]) hC (HS0.out W hC)
      refine ob_det (c := .agg #[.slice a0 L.secs.length p0, .slice a1 L.sigs.length p1, .slice a2 L.exits.length p2, .slice a3 L.flanks.length p3, .int .i64 L.t0, .int .i64 L.t1, .int .i64 L.t2, .int .i64 L.t3, .int .i64 L.t4, .int .i64 L.t5, .int .i64 L.t6]) ?_ ?_
      · intro ρ W hk hC
        simp only [seen, obOp]
        rintro h1
        replace h1 : ρ (.tmp 1) = .pointer (some ⟨w.heap.size, 0, none⟩) := h1.trans rfl
        exact rel_value (runLoad h1 (HBX.out.below hC)) hC
      refine ob_det (c := .int .i64 v1) ?_ ?_
      · intro ρ W hk hC
        simp only [seen, obOp, List.getD_cons_zero]
        rintro h15
        exact rel_call (f := 24) (args := #[.agg #[.slice a0 L.secs.length p0, .slice a1 L.sigs.length p1, .slice a2 L.exits.length p2, .slice a3 L.flanks.length p3, .int .i64 L.t0, .int .i64 L.t1, .int .i64 L.t2, .int .i64 L.t3, .int .i64 L.t4, .int .i64 L.t5, .int .i64 L.t6]]) (by simp [go_sem, h15, hk.func]) hC (HS1.out W hC)
      refine ob_det (c := .agg #[.slice a0 L.secs.length p0, .slice a1 L.sigs.length p1, .slice a2 L.exits.length p2, .slice a3 L.flanks.length p3, .int .i64 L.t0, .int .i64 L.t1, .int .i64 L.t2, .int .i64 L.t3, .int .i64 L.t4, .int .i64 L.t5, .int .i64 L.t6]) ?_ ?_
      · intro ρ W hk hC
        simp only [seen, obOp]
        rintro h1
        replace h1 : ρ (.tmp 1) = .pointer (some ⟨w.heap.size, 0, none⟩) := h1.trans rfl
        exact rel_value (runLoad h1 (HBX.out.below hC)) hC
      refine ob_det (c := .int .i64 v2) ?_ ?_
      · intro ρ W hk hC
        simp only [seen, obOp, List.getD_cons_zero]
        rintro h17
        exact rel_call (f := 25) (args := #[.agg #[.slice a0 L.secs.length p0, .slice a1 L.sigs.length p1, .slice a2 L.exits.length p2, .slice a3 L.flanks.length p3, .int .i64 L.t0, .int .i64 L.t1, .int .i64 L.t2, .int .i64 L.t3, .int .i64 L.t4, .int .i64 L.t5, .int .i64 L.t6]]) (by simp [go_sem, h17, hk.func]) hC (HS2.out W hC)
      refine ob_det (c := .agg #[.slice a0 L.secs.length p0, .slice a1 L.sigs.length p1, .slice a2 L.exits.length p2, .slice a3 L.flanks.length p3, .int .i64 L.t0, .int .i64 L.t1, .int .i64 L.t2, .int .i64 L.t3, .int .i64 L.t4, .int .i64 L.t5, .int .i64 L.t6]) ?_ ?_
      · intro ρ W hk hC
        simp only [seen, obOp]
        rintro h1
        replace h1 : ρ (.tmp 1) = .pointer (some ⟨w.heap.size, 0, none⟩) := h1.trans rfl
        exact rel_value (runLoad h1 (HBX.out.below hC)) hC
      refine ob_det (c := .int .i64 v3) ?_ ?_
      · intro ρ W hk hC
        simp only [seen, obOp, List.getD_cons_zero]
        rintro h19
        exact rel_call (f := 26) (args := #[.agg #[.slice a0 L.secs.length p0, .slice a1 L.sigs.length p1, .slice a2 L.exits.length p2, .slice a3 L.flanks.length p3, .int .i64 L.t0, .int .i64 L.t1, .int .i64 L.t2, .int .i64 L.t3, .int .i64 L.t4, .int .i64 L.t5, .int .i64 L.t6]]) (by simp [go_sem, h19, hk.func]) hC (HS3.out W hC)
      refine ob_det (c := .agg #[.int .i64 v0, .int .i64 v1, .int .i64 v2, .int .i64 v3]) ?_ ?_
      · intro ρ W hk hC
        simp only [seen, obOp, List.getD_cons_zero, List.getD_cons_succ]
        rintro h14 h16 h18 h20
        exact rel_value (by simp [go_sem, h14, h16, h18, h20]) hC
      refine ⟨IsNew X #[.int .i64 0, .int .i64 0, .int .i64 0, .int .i64 0], fun v w w' h k => h.step k, ?_, ?_⟩
      · intro ρ W hk hC
        simp only [seen, obOp]
        exact rel_new (cs := #[.int .i64 0, .int .i64 0, .int .i64 0, .int .i64 0]) (T := 60) (by simp [go_sem]) hC
      intro vs w5 hC5
      simp only [endSeen, List.getD_cons_zero, List.getD_cons_succ]
      intro h5 h21
      simp only [writeAll, List.setIfInBounds_toArray, List.set_cons_zero, List.set_cons_succ, h21]
      obtain ⟨b, hb, lb, lb5, cb, fb⟩ := h5
      rw [hb]
      have k0 := cb 0
      have k1 := cb 1
      have k2 := cb 2
      have k3 := cb 3
      simp only [List.getElem?_toArray, List.getElem?_cons_zero, List.getElem?_cons_succ] at k0 k1 k2 k3
      have f0 := fb 0
      have f1 := fb 1
      have f2 := fb 2
      have f3 := fb 3
      have HC5 := Lib.hid (⟨hC5, lb⟩ : _ ∧ _)
      clear cb fb hC5 lb hb
      gi_wp2
      go_wp2_with fail
      have hY : Below w.heap.size w ((((w5.setCell ⟨b, 0, none⟩ (.int .i64 v0)).setCell ⟨b, 1, none⟩ (.int .i64 v1)).setCell ⟨b, 2, none⟩ (.int .i64 v2)).setCell ⟨b, 3, none⟩ (.int .i64 v3)) := ((((bchain HG.out.1 HC5.out.1).setCell (p := ⟨b, 0, none⟩) (by have := HG.out.1.size; have := HC5.out.2; dsimp only; omega) _).setCell (p := ⟨b, 1, none⟩) (by have := HG.out.1.size; have := HC5.out.2; dsimp only; omega) _).setCell (p := ⟨b, 2, none⟩) (by have := HG.out.1.size; have := HC5.out.2; dsimp only; omega) _).setCell (p := ⟨b, 3, none⟩) (by have := HG.out.1.size; have := HC5.out.2; dsimp only; omega) _
      have y0 : ((((w5.setCell ⟨b, 0, none⟩ (.int .i64 v0)).setCell ⟨b, 1, none⟩ (.int .i64 v1)).setCell ⟨b, 2, none⟩ (.int .i64 v2)).setCell ⟨b, 3, none⟩ (.int .i64 v3)).cell? ⟨b, 0, none⟩ = some (.int .i64 v0) := by simp [go_sem, k0]
      have y1 : ((((w5.setCell ⟨b, 0, none⟩ (.int .i64 v0)).setCell ⟨b, 1, none⟩ (.int .i64 v1)).setCell ⟨b, 2, none⟩ (.int .i64 v2)).setCell ⟨b, 3, none⟩ (.int .i64 v3)).cell? ⟨b, 1, none⟩ = some (.int .i64 v1) := by simp [go_sem, k1]
      have y2 : ((((w5.setCell ⟨b, 0, none⟩ (.int .i64 v0)).setCell ⟨b, 1, none⟩ (.int .i64 v1)).setCell ⟨b, 2, none⟩ (.int .i64 v2)).setCell ⟨b, 3, none⟩ (.int .i64 v3)).cell? ⟨b, 2, none⟩ = some (.int .i64 v2) := by simp [go_sem, k2]
      have y3 : ((((w5.setCell ⟨b, 0, none⟩ (.int .i64 v0)).setCell ⟨b, 1, none⟩ (.int .i64 v1)).setCell ⟨b, 2, none⟩ (.int .i64 v2)).setCell ⟨b, 3, none⟩ (.int .i64 v3)).cell? ⟨b, 3, none⟩ = some (.int .i64 v3) := by simp [go_sem, k3]
      have lY : b < ((((w5.setCell ⟨b, 0, none⟩ (.int .i64 v0)).setCell ⟨b, 1, none⟩ (.int .i64 v1)).setCell ⟨b, 2, none⟩ (.int .i64 v2)).setCell ⟨b, 3, none⟩ (.int .i64 v3)).heap.size := by simpa [World.setCell] using lb5
      generalize ((((w5.setCell ⟨b, 0, none⟩ (.int .i64 v0)).setCell ⟨b, 1, none⟩ (.int .i64 v1)).setCell ⟨b, 2, none⟩ (.int .i64 v2)).setCell ⟨b, 3, none⟩ (.int .i64 v3)) = Y at hY y0 y1 y2 y3 lY ⊢
      have HY := Lib.hid (⟨hY, y0, y1, y2, y3⟩ : _ ∧ _ ∧ _ ∧ _ ∧ _)
      clear hY y0 y1 y2 y3 k0 k1 k2 k3 f0 f1 f2 f3 HC5 lb5
      go_loopw [6] (fun c wr => ∃ n : Nat, n ≤ 4 ∧ c = .int .i64 n ∧ Hid (Below Y.heap.size Y wr) ∧ Hid (∀ j, j < n + 1 → ruleN L j < 0)) (fun c _ => 4 - (intOf c).toNat)
      case atStart => exact ⟨0, by omega, rfl, Lib.hid (Below.refl _ _), Lib.hid (fun j hj => by
        obtain rfl : j = 0 := by omega
        exact HN0.out)⟩
      case round =>
        obtain ⟨n, hn, rfl, HBr, HJ⟩ := hrel
        have HBW := Lib.hid (bchain HY.out.1 HBr.out)
        have lb : b < wr.heap.size := Nat.lt_of_lt_of_le lY HBr.out.size
        by_cases hn4 : n = 4
        · subst hn4
          obtain rfl : cr = (0, 0, 0) := HQ.out.2.2.1.trans (check_none HQ.out.1.symm HJ.out)
          go_wp2
          go_ret3
          exact ⟨rfl, HBW.out⟩
        have hlt : n < 4 := by omega
        obtain ⟨v, hv⟩ : ∃ v, v = ruleN L (n + 1) := ⟨_, rfl⟩
        have hch := fun hh : 0 ≤ ruleN L (n + 1) => HQ.out.2.2.1.trans (check_hit HQ.out.1.symm (show n + 1 < 5 by omega) HJ.out hh)
        rw [← hv] at hch
        have cv : wr.cell? ⟨b, n, none⟩ = some (.int .i64 v) := by
          rw [hv]
          obtain rfl | rfl | rfl | rfl : n = 0 ∨ n = 1 ∨ n = 2 ∨ n = 3 := by omega
          · exact ((HBr.out.cell (p := ⟨b, 0, none⟩) lY).trans HY.out.2.1).trans (by rw [HV.out.1])
          · exact ((HBr.out.cell (p := ⟨b, 1, none⟩) lY).trans HY.out.2.2.1).trans (by rw [HV.out.2.1])
          · exact ((HBr.out.cell (p := ⟨b, 2, none⟩) lY).trans HY.out.2.2.2.1).trans (by rw [HV.out.2.2.1])
          · exact ((HBr.out.cell (p := ⟨b, 3, none⟩) lY).trans HY.out.2.2.2.2).trans (by rw [HV.out.2.2.2])
        have HCH := Lib.hid (⟨hch, hv⟩ : _ ∧ _)
        have hn0 : (0 : Int) ≤ (n : Int) := by omega
        have hn44 : (n : Int) < 4 := by omega
        clear hch hv hn4
        by_cases h0 : 0 ≤ v
        · have d0 : decide (0 ≤ v) = true := decide_eq_true h0
          have HE := Lib.hid (HCH.out.1 h0)
          clear h0
          go_wp2_with fail
          refine wp_region_ext (by kernel_rfl) (by kernel_rfl) fun hxx => ?_
          repeat (go_big_quiet_step (fail))
          refine wpQuiet_nil ?_
          intro w7 b7
          have HB7 := Lib.hid (bchain HBW.out b7)
          clear b7 hxx
          go_wp2
          go_ret3
          obtain rfl := HE.out
          exact ⟨by simp; omega, HB7.out⟩
        · have d0 : decide (0 ≤ v) = false := decide_eq_false h0
          have HE := Lib.hid h0
          clear h0
          go_wp2
          go_roundw
          case rel => exact ⟨n + 1, by omega, by go_num, HBr, Lib.hid (fun j hj => by
            by_cases e : j = n + 1
            · subst e; have := HE.out; rw [HCH.out.2] at this; omega
            · exact HJ.out j (by omega))⟩
          case measure => simp [intOf]; omega

set_option maxRecDepth 100000 in
set_option maxHeartbeats 4000000 in
theorem rTopoRight_any (L : Lay) (P : Where) (w : World) (hL : LayAt w P L) :
    Calls Tryd.prog 13 #[L.val P] w fun e w' => e = .returned (.bool (topoR L)) ∧ Below w.heap.size w w' := by
  have hc := fun W (hb : Below w.heap.size w W) => rCheck_any L P W (hL.below hb)
  unfold topoR
  generalize checkL L = cr at hc ⊢
  obtain ⟨x0, x1, x2⟩ := cr
  dsimp only at hc ⊢
  obtain ⟨a0, a1, a2, a3, p0, p1, p2, p3⟩ := P
  unfold Lay.val at hc ⊢
  have HC := Lib.hid hc
  clear hc hL
  go_enter Tryd.func13, Tryd.ntmps13
  go_wp2_with fail
  (with_reducible refine (HC.out (w.alloc (.cells #[.slice a0 L.secs.length p0, .slice a1 L.sigs.length p1, .slice a2 L.exits.length p2, .slice a3 L.flanks.length p3, .int .i64 L.t0, .int .i64 L.t1, .int .i64 L.t2, .int .i64 L.t3, .int .i64 L.t4, .int .i64 L.t5, .int .i64 L.t6] 29)) bself).mono ?_)
  rintro e w1 ⟨rfl, b1⟩
  have HB1 := Lib.hid (bnew b1)
  clear b1
  go_wp2
  go_ret
  exact ⟨by first | rfl | (apply ret_bool; simp), HB1.out⟩
end Go.Proofs.YtmnkgnoljllnnaaDoor

/-
  lockbarref07.Great: where it says no, the layout is small.
-/
namespace Go.Proofs.YtmnkgnoljllnnaaDoor
open Go.RowKit Go.Shelf

def FewG (L : Lay) : Prop := L.secs.length ≤ 30 ∧ L.sigs.length ≤ 20 ∧ L.exits.length ≤ 20 ∧ L.flanks.length ≤ 30 ∧ ∀ x ∈ L.exits, x.over.length ≤ 20
def GreatOf (L : Lay) (w : World) (e : Ending) (w' : World) : Prop := ∃ b : Bool, e = .returned (.bool b) ∧ (b = false → FewG L) ∧ Below w.heap.size w w'
theorem great_yes {L : Lay} {w w' : World} (h : Below w.heap.size w w') : GreatOf L w (.returned (.bool true)) w' := ⟨true, rfl, fun h => (by cases h), h⟩
theorem great_no {L : Lay} {w w' : World} (hf : FewG L) (h : Below w.heap.size w w') : GreatOf L w (.returned (.bool false)) w' := ⟨false, rfl, fun _ => hf, h⟩

set_option maxRecDepth 100000 in
set_option maxHeartbeats 4000000 in
theorem rGreat_of (L : Lay) (p : Where) (w : World) (hL : LayAt w p L) : Calls Tryd.prog 8 #[L.val p] w (GreatOf L w) := by
  have hm0 : L.secs.length ≤ 9223372036854775807 := Nat.le_trans hL.l0.1 hL.l0.2
  have hm1 : L.sigs.length ≤ 9223372036854775807 := Nat.le_trans hL.l1.1 hL.l1.2
  have hm : L.exits.length ≤ 9223372036854775807 := Nat.le_trans hL.l2.1 hL.l2.2
  have hm3 : L.flanks.length ≤ 9223372036854775807 := Nat.le_trans hL.l3.1 hL.l3.2
  obtain ⟨a0, a1, a2, a3, p0, p1, p2, p3⟩ := p
  have HL := Lib.hid hL
  clear hL
  unfold Lay.val
  go_enter Tryd.func8, Tryd.ntmps8
  go_wp2_with fail
  go_loop [3] (fun s3 => ∃ n : Nat, n ≤ L.exits.length ∧ n ≤ 21 ∧ s3 = .int .i64 n ∧ Hid (∀ (j : Nat) (x : Ext'), j < n → L.exits[j]? = some x → x.over.length ≤ 20)) (fun s3 => L.exits.length - (intOf s3).toNat)
  case atStart => exact ⟨0, Nat.zero_le _, by omega, rfl, Lib.hid (fun j x hj => absurd hj (Nat.not_lt_zero _))⟩
  case round =>
    obtain ⟨n, hn, hn31, rfl, HJ⟩ := hrel
    by_cases hlt : n < L.exits.length ∧ n ≤ 20
    · obtain ⟨hlt, h30⟩ := hlt
      obtain ⟨es, hes, hAt, hov⟩ := HL.out.exits
      have hlen : es.length = L.exits.length := by rw [← hes, List.length_map]
      obtain ⟨b, off, hAe, h0, hrow⟩ := hAt.get (j := n) (by omega)
      subst hAe
      obtain ⟨y, hy⟩ : ∃ y, es[n]? = some y := ⟨es[n]'(by omega), List.getElem?_eq_getElem (by omega)⟩
      have g2 := hrow n y hy 2 _ rfl
      have hye : L.exits[n]? = some y.1 := by rw [← hes, List.getElem?_map, hy]; rfl
      obtain ⟨A, cap, e2, hcap, hmax, _⟩ := hov y (List.mem_of_getElem? hy)
      rw [e2] at g2
      obtain ⟨m, hmv⟩ : ∃ m, m = y.1.over.length := ⟨_, rfl⟩
      have next : m ≤ 20 → Hid (∀ (j : Nat) (x : Ext'), j < n + 1 → L.exits[j]? = some x → x.over.length ≤ 20) := fun h => Lib.hid fun j x hj hx => by
        by_cases e : j = n
        · subst e
          rw [hye] at hx
          cases hx
          omega
        · exact HJ.out j x (by omega) hx
      have NX := Lib.hid next
      rw [← hmv] at g2 hcap
      have hmm : m ≤ 9223372036854775807 := Nat.le_trans hcap hmax
      clear next hrow hy hes hAt hov hlen e2 hcap hmax hmv HL hye
      have d30 : decide ((n : Int) ≤ 20) = true := decide_eq_true (by omega)
      by_cases h20 : 20 < m
      · have d20 : decide ((20 : Int) < (m : Int)) = true := decide_eq_true (by omega)
        go_wp2
        go_ret
        exact great_yes bself
      · have d20 : decide ((20 : Int) < (m : Int)) = false := decide_eq_false (by omega)
        go_wp2
        go_round
        case rel => exact ⟨n + 1, by omega, by omega, by go_num, NX.out (by omega)⟩
        case measure => simp [intOf]; omega
    · have hstop : (n < L.exits.length ∧ 20 < n) ∨ n = L.exits.length := by omega
      clear hlt HL
      have few : L.secs.length ≤ 30 → L.sigs.length ≤ 20 → L.exits.length ≤ 20 → L.flanks.length ≤ 30 → FewG L := fun h0 h1 h2 h3 => ⟨h0, h1, h2, h3, fun x hx => by
        obtain ⟨j, hj⟩ := List.mem_iff_getElem?.1 hx
        have hjl := (List.getElem?_eq_some_iff.1 hj).1
        exact HJ.out j x (by omega) hj⟩
      have FW := Lib.hid few
      clear few
      have hts : decide (n < L.exits.length) = false ∨ (decide (n < L.exits.length) = true ∧ decide ((n : Int) ≤ 20) = false) := by
        rcases hstop with ⟨h1, h2⟩ | h1
        · exact .inr ⟨decide_eq_true (by omega), decide_eq_false (by omega)⟩
        · exact .inl (decide_eq_false (by omega))
      have h0 : (30 : Int) < L.secs.length ∨ (L.secs.length ≤ 30 ∧ (20 : Int) < L.sigs.length) ∨ (L.secs.length ≤ 30 ∧ L.sigs.length ≤ 20 ∧ (20 : Int) < L.exits.length) ∨ (L.secs.length ≤ 30 ∧ L.sigs.length ≤ 20 ∧ L.exits.length ≤ 20 ∧ (30 : Int) < L.flanks.length) ∨ (L.secs.length ≤ 30 ∧ L.sigs.length ≤ 20 ∧ L.exits.length ≤ 20 ∧ L.flanks.length ≤ 30) := by omega
      clear hstop hn hn31 HJ
      rcases h0 with h0 | ⟨h0, h1⟩ | ⟨h0, h1, h2⟩ | ⟨h0, h1, h2, h3⟩ | ⟨h0, h1, h2, h3⟩
      · have e0 : decide ((30 : Int) < (L.secs.length : Int)) = true := decide_eq_true (by omega)
        clear h0 FW
        rcases hts with t0 | ⟨t0, t1⟩
        all_goals
          go_wp2
          go_ret
          exact great_yes bself
      · have e0 : decide ((30 : Int) < (L.secs.length : Int)) = false := decide_eq_false (by omega)
        have e1 : decide ((20 : Int) < (L.sigs.length : Int)) = true := decide_eq_true (by omega)
        clear h0 h1 FW
        rcases hts with t0 | ⟨t0, t1⟩
        all_goals
          go_wp2
          go_ret
          exact great_yes bself
      · have e0 : decide ((30 : Int) < (L.secs.length : Int)) = false := decide_eq_false (by omega)
        have e1 : decide ((20 : Int) < (L.sigs.length : Int)) = false := decide_eq_false (by omega)
        have e2 : decide ((20 : Int) < (L.exits.length : Int)) = true := decide_eq_true (by omega)
        clear h0 h1 h2 FW
        rcases hts with t0 | ⟨t0, t1⟩
        all_goals
          go_wp2
          go_ret
          exact great_yes bself
      · have e0 : decide ((30 : Int) < (L.secs.length : Int)) = false := decide_eq_false (by omega)
        have e1 : decide ((20 : Int) < (L.sigs.length : Int)) = false := decide_eq_false (by omega)
        have e2 : decide ((20 : Int) < (L.exits.length : Int)) = false := decide_eq_false (by omega)
        have e3 : decide ((30 : Int) < (L.flanks.length : Int)) = true := decide_eq_true (by omega)
        clear h0 h1 h2 h3 FW
        rcases hts with t0 | ⟨t0, t1⟩
        all_goals
          go_wp2
          go_ret
          exact great_yes bself
      · have e0 : decide ((30 : Int) < (L.secs.length : Int)) = false := decide_eq_false (by omega)
        have e1 : decide ((20 : Int) < (L.sigs.length : Int)) = false := decide_eq_false (by omega)
        have e2 : decide ((20 : Int) < (L.exits.length : Int)) = false := decide_eq_false (by omega)
        have e3 : decide ((30 : Int) < (L.flanks.length : Int)) = false := decide_eq_false (by omega)
        have FW2 := Lib.hid (FW.out h0 h1 h2 h3)
        clear h0 h1 h2 h3 FW
        rcases hts with t0 | ⟨t0, t1⟩
        all_goals
          go_wp2
          go_ret
          exact great_no FW2.out bself
end Go.Proofs.YtmnkgnoljllnnaaDoor

/-
  The step from a law's walk to its row: whatever the parameters, they read again as they read before, since nothing that was there has turned; the result is true.
-/
namespace Go.Proofs.YtmnkgnoljllnnaaDoor
open Go.RowKit Go.WideShapes Go.ChangeShapes Go.ChangeAt

section
variable {H : Type} {enc : TypeId × Value → H} {P : Program}
/-- All arguments read again. -/
theorem trodAll_again (hl : laidOutB P = true) {W W' : World} (hb : Below W.heap.size W W') {sp : Nat → Bool} : ∀ {ts : List TypeId} {vs : List Value} {ds : List (DataW H)} {ps : List MemPlace}, (∀ t ∈ ts, P.readableRec t = true ∧ t < P.types.size) →
    DataW.TrodAll enc P W 0 (fun _ => true) true ts vs ds ps → (∀ p ∈ ps, p.block < W.heap.size) → (∀ p ∈ ps, sp p.block = true) → DataW.TrodAll enc P W' 0 sp true ts vs ds ps
  | [], _, _, _, _, h, _, _ => by
    obtain ⟨rfl, rfl, rfl⟩ := trodAll_nil h
    exact trodAll_mk0
  | t :: ts, _, _, _, ht, h, hlt, hs => by
    obtain ⟨v, vs, d, ds, p, q, rfl, rfl, rfl, h1, h2⟩ := trodAll_cons h
    have a := ht t (by simp)
    exact ⟨p, q, WideElems.Trod_stays hl a.1 a.2 h1 (fun x hx => hb.same (hlt x (by simp [hx]))) (fun x hx => hs x (by simp [hx])),
      trodAll_again hl hb (fun t' h' => ht t' (by simp [h'])) h2 (fun x hx => hlt x (by simp [hx])) (fun x hx => hs x (by simp [hx])), rfl⟩

/-- What a law's row asks behind the call. -/
theorem law_post {f : Func} {s : ChangeSpec} {W W' : World} {args : Array Value} {ds gs : List (DataW H)} {before : List MemPlace} {tb : TypeId}
    (hl : laidOutB P = true) (hts : ∀ t ∈ f.params.toList, P.readableRec t = true ∧ t < P.types.size) (hv : s.vars = []) (hr : f.resultTypes = #[tb]) (hbool : P.underlying tb = some .bool)
    (hsp : (s.fn H ds).results = [.lit (.bool true)] ∧ (s.fn H ds).args = ds ∧ (s.fn H ds).vars = [])
    (hW : DataW.Whole enc P f.params.toList s.vars false W args.toList ds gs before) (hb : Below W.heap.size W W') :
    s.post enc P f false true false false W args (.bool true) W' := by
  have hlt : ∀ p ∈ before, p.block < W.heap.size := fun p hp => hW.lt p hp
  have hW0 := hW
  obtain ⟨p, q, hA, hV, rfl, hfz, hnd⟩ := hW
  rw [hv] at hV
  obtain ⟨rfl, rfl⟩ := trodVars_none hV
  simp only [List.append_nil] at hlt
  have hA2 : ∀ sp : Nat → Bool, (∀ x ∈ p, sp x.block = true) → DataW.TrodAll enc P W' 0 sp true f.params.toList args.toList ds p := fun sp hs => trodAll_again hl hb hts hA hlt hs
  refine ⟨ds, [], p ++ [], [], p, [], hW0, ?_, ?_, ?_, World.keptBut_mono (fun x hx => ⟨hx, ?_⟩) (hb.frame (· ∈ p ++ [])), fun h => by cases h⟩
  · rw [hr, List.append_nil, hsp.1]
    exact trodAll_mk1 (shut_bool hbool _)
  · rw [List.append_nil, hsp.2.1]
    exact hA2 _ (fun x hx => by simpa using hlt x hx)
  · rw [List.append_nil, hsp.2.2, hv]
    rfl
  · simpa using hx
end

/-- **A LAW's ROW, LIFTED, OUT OF ITS WALK.** -/
theorem law_lifted {C : Checked} {os : Os} {f : FuncId} {fn : Func} {s : ChangeSpec} {conds : List PathCond} {tb : TypeId} {H : Type} {enc : TypeId × Value → H}
    (own : ownKnob C.prog.godebug = none) (started : os.Started) (noInit : C.prog.inits.idxOf? f = none) (hfn : C.prog.funcs[f]? = some fn)
    (witness : ∃ (w : World) (tape : Tape) (i : Input), w.os = os ∧ (w.forCall tape i).Shaped C.prog ∧ i.vars = [] ∧ Input.okWide C.prog (w.forCall tape i) .any w.heap.size f i ∧
      s.pre6 enc C.prog fn conds false (w.forCall tape i).memory i.args ∧ Assume.holds {} C.prog (lone (Frame.enter C.prog f i.args .normal) [] (w.forCall tape i)))
    (hl : laidOutB C.prog = true) (hts : fn.params.toList.all (fun t => C.prog.readableRec t && decide (t < C.prog.types.size)) = true) (hv : s.vars = []) (hr : fn.resultTypes = #[tb]) (hbool : C.prog.underlying tb = some .bool)
    (walk : ∀ (W : World) (base : Nat) (args : Array Value) (ds : List (DataW H)) (p : List MemPlace),
      (∀ (j : Nat) t v, fn.params[j]? = some t → args[j]? = some v → Value.okWide C.prog W .any base t v) →
      DataW.TrodAll enc C.prog W 0 (fun _ => true) true fn.params.toList args.toList ds p → (∀ x ∈ p, x.block < W.heap.size) →
      ((s.fn H ds).results = [.lit (.bool true)] ∧ (s.fn H ds).args = ds ∧ (s.fn H ds).vars = []) ∧ Calls C.prog f args W fun e w' => e = .returned (.bool true) ∧ Below W.heap.size W w') :
    ReturnsInHanded {} C os f .any (s.pre6 enc C.prog fn conds false) (s.post enc C.prog fn false true false false) := by
  refine returnsInHanded_of_change own started noInit hfn witness ?_
  intro W base args ds gs before hval hW _ _
  have hW' := hW
  obtain ⟨p, q, hA, hV, hp, hfz, hnd⟩ := hW
  have hlt : ∀ x ∈ p, x.block < W.heap.size := fun x hx => hW'.lt x (by rw [hp]; simp [hx])
  obtain ⟨hsp, hc⟩ := walk W base args ds p hval hA hlt
  refine hc.mono fun e W' ⟨he, hb⟩ => ⟨_, he, law_post hl (fun t ht => ?_) hv hr hbool hsp hW' hb⟩
  have := List.all_eq_true.1 hts t ht
  simpa using this
end Go.Proofs.YtmnkgnoljllnnaaDoor

/-
  A value of plain ints (through structs and arrays): each of its cells is an int of its kind, within its bounds.
-/
namespace Go.Proofs.YtmnkgnoljllnnaaDoor
open Go.RowKit Go.WideShapes Go.ChangeShapes Go.ChangeAt

/-- The kind of the int that stands in cell o of a value of type t. -/
def kindAt (P : Program) : Nat → TypeId → Nat → Option IntKind
  | 0, _, _ => none
  | n + 1, t, o =>
    match P.underlying t with
    | some (.int k) => if o = 0 then some k else none
    | some (.struct fs) => fs.toList.findSome? fun f => if f.offset ≤ o ∧ o < f.offset + P.cellsOf f.type then kindAt P n f.type (o - f.offset) else none
    | some (.array m e) => if 0 < P.cellsOf e ∧ o / P.cellsOf e < m then kindAt P n e (o % P.cellsOf e) else none
    | _ => none

theorem kind_cell' {H : Type} {enc : TypeId × Value → H} {P : Program} {w : World} {base : Nat} {sp : Nat → Bool} {held : Bool} : ∀ (n : Nat) {fuel : Nat} {t : TypeId} {cs : List Value} {x : DataW H × List MemPlace} {o : Nat} {k : IntKind},
    DataW.trod enc P w base sp held fuel t cs = some x → kindAt P n t o = some k → ∃ z, cs[o]? = some (.int k z) ∧ (Lit.int k z).wf = true
  | 0, _, _, _, _, _, _, _, hl => by simp [kindAt] at hl
  | n + 1, fuel, t, cs, x, o, k, h, hl => by
    unfold kindAt at hl
    split at hl
    · rename_i k' hu
      obtain ⟨z, rfl, _, hw⟩ := DataW.trod_int hu h
      split at hl
      · rename_i e
        subst e
        cases hl
        exact ⟨z, rfl, hw⟩
      · cases hl
    · rename_i fs hu
      obtain ⟨xs, m, _, _, _, hlen, hf⟩ := DataW.trod_struct hu h
      obtain ⟨f, hmem, hy⟩ := List.exists_of_findSome?_eq_some hl
      split at hy
      · rename_i hr
        obtain ⟨i, hi⟩ := List.mem_iff_getElem?.1 hmem
        have hfi : fs[i]? = some f := by simpa using hi
        have h1 := hf i f hfi
        have hlt : i < xs.length := by rw [hlen]; exact (Array.getElem?_eq_some_iff.1 hfi).1
        rw [List.getElem?_eq_getElem hlt] at h1
        obtain ⟨z, h2, hw⟩ := kind_cell' n h1 hy
        refine ⟨z, ?_, hw⟩
        rw [List.getElem?_take_of_lt (by omega), List.getElem?_drop] at h2
        rwa [show f.offset + (o - f.offset) = o by omega] at h2
      · cases hy
    · rename_i m' e hu
      obtain ⟨xs, m, _, _, _, hlen, hf⟩ := DataW.trod_array hu h
      split at hl
      · rename_i hc
        have h1 := hf (o / P.cellsOf e) hc.2
        have hlt : o / P.cellsOf e < xs.length := by rw [hlen]; exact hc.2
        rw [List.getElem?_eq_getElem hlt] at h1
        obtain ⟨z, h2, hw⟩ := kind_cell' n h1 hl
        refine ⟨z, ?_, hw⟩
        have hm := Nat.mod_lt o hc.1
        rw [List.getElem?_take_of_lt hm, List.getElem?_drop] at h2
        rwa [show o / P.cellsOf e * P.cellsOf e + o % P.cellsOf e = o by rw [Nat.mul_comm]; exact Nat.div_add_mod o _] at h2
      · cases hl
    · cases hl

/-- All cells at once: the list of the kinds tells the list of the values. -/
theorem kinds_cells {H : Type} {enc : TypeId × Value → H} {P : Program} {w : World} {base : Nat} {sp : Nat → Bool} {held : Bool} {n fuel : Nat} {t : TypeId} {cs : List Value} {x : DataW H × List MemPlace} {ks : List IntKind}
    (h : DataW.trod enc P w base sp held fuel t cs = some x) (hk : (List.range ks.length).map (kindAt P n t) = ks.map some) (o : Nat) (k : IntKind) (ho : ks[o]? = some k) : ∃ z, cs[o]? = some (.int k z) ∧ (Lit.int k z).wf = true := by
  refine kind_cell' n h (o := o) ?_
  have hlt := (List.getElem?_eq_some_iff.1 ho).1
  have h1 := congrArg (fun l => l[o]?) hk
  simp only [List.getElem?_map, List.getElem?_range hlt, Option.map_some, ho, Option.some.injEq] at h1
  exact h1
end Go.Proofs.YtmnkgnoljllnnaaDoor

/-
  A listed variable of plain data (ints, bools, structs, arrays): each of its cells, by computing; a law's row, lifted, where variables are listed.
-/
namespace Go.Proofs.YtmnkgnoljllnnaaDoor
open Go.RowKit Go.WideShapes Go.ChangeShapes Go.ChangeAt

/-- The value that stands in cell o of a datum of type t. -/
def leaf {H : Type} (P : Program) : Nat → TypeId → DataW H → Nat → Option Value
  | 0, _, _, _ => none
  | n + 1, t, d, o =>
    match P.underlying t, d with
    | some .bool, .lit (.bool b) => if o = 0 then some (.bool b) else none
    | some (.int _), .lit (.int k m) => if o = 0 then some (.int k m) else none
    | some (.struct fs), .agg ds => (fs.toList.zip ds).findSome? fun x => if x.1.offset ≤ o ∧ o < x.1.offset + P.cellsOf x.1.type then leaf P n x.1.type x.2 (o - x.1.offset) else none
    | some (.array _ e), .agg ds => if 0 < P.cellsOf e then (ds[o / P.cellsOf e]?).bind fun x => leaf P n e x (o % P.cellsOf e) else none
    | _, _ => none

theorem leaf_cell {H : Type} {enc : TypeId × Value → H} {P : Program} {w : World} {base : Nat} {sp : Nat → Bool} {held : Bool} : ∀ (n : Nat) {fuel : Nat} {t : TypeId} {cs : List Value} {d : DataW H} {p : List MemPlace} {o : Nat} {v : Value},
    DataW.trod enc P w base sp held fuel t cs = some (d, p) → leaf P n t d o = some v → cs[o]? = some v
  | 0, _, _, _, _, _, _, _, _, hl => by simp [leaf] at hl
  | n + 1, fuel, t, cs, d, p, o, v, h, hl => by
    unfold leaf at hl
    split at hl
    · rename_i hu
      obtain ⟨b, rfl, hx⟩ := DataW.trod_bool hu h
      cases hx
      split at hl
      · rename_i e; subst e; simpa using hl
      · cases hl
    · rename_i hu
      obtain ⟨b, rfl, hx, _⟩ := DataW.trod_int hu h
      cases hx
      split at hl
      · rename_i e; subst e; simpa using hl
      · cases hl
    · rename_i fs ds hu
      obtain ⟨xs, m, _, hx, _, hlen, hf⟩ := DataW.trod_struct hu h
      simp only [Prod.mk.injEq, DataW.agg.injEq] at hx
      obtain ⟨⟨f, y⟩, hmem, hy⟩ := List.exists_of_findSome?_eq_some hl
      split at hy
      · rename_i hr
        obtain ⟨i, hi⟩ := List.mem_iff_getElem?.1 hmem
        rw [List.getElem?_zip_eq_some] at hi
        obtain ⟨hi1, hi2⟩ := hi
        have hfi : fs[i]? = some f := by simpa using hi1
        have h1 := hf i f hfi
        rw [hx.1, List.getElem?_map] at hi2
        cases hxi : xs[i]? with
        | none => simp [hxi] at hi2
        | some z =>
          rw [hxi] at hi2 h1
          simp only [Option.map_some, Option.some.injEq] at hi2
          subst hi2
          dsimp only at hr hy
          have h2 := leaf_cell n (d := z.1) (p := z.2) h1 hy
          rw [List.getElem?_take_of_lt (by omega), List.getElem?_drop] at h2
          rwa [show f.offset + (o - f.offset) = o by omega] at h2
      · cases hy
    · rename_i m' e ds hu
      obtain ⟨xs, m, _, hx, _, hlen, hf⟩ := DataW.trod_array hu h
      simp only [Prod.mk.injEq, DataW.agg.injEq] at hx
      split at hl
      · rename_i hc
        simp only [Option.bind_eq_some_iff] at hl
        obtain ⟨y, hy1, hy2⟩ := hl
        rw [hx.1, List.getElem?_map] at hy1
        cases hxi : xs[o / P.cellsOf e]? with
        | none => simp [hxi] at hy1
        | some z =>
          rw [hxi] at hy1
          simp only [Option.map_some, Option.some.injEq] at hy1
          subst hy1
          have h1 := hf (o / P.cellsOf e) (by rw [← hlen]; exact (List.getElem?_eq_some_iff.1 hxi).1)
          rw [hxi] at h1
          have h2 := leaf_cell n (d := z.1) (p := z.2) h1 hy2
          have hm := Nat.mod_lt o hc
          rw [List.getElem?_take_of_lt hm, List.getElem?_drop] at h2
          rwa [show o / P.cellsOf e * P.cellsOf e + o % P.cellsOf e = o by rw [Nat.mul_comm]; exact Nat.div_add_mod o _] at h2
      · cases hl
    · cases hl

/-- **A LAW's ROW, LIFTED, WHERE VARIABLES ARE LISTED.** -/
theorem law_lifted_laid {C : Checked} {os : Os} {f : FuncId} {fn : Func} {s : ChangeSpec} {conds : List PathCond} {tb : TypeId} {H : Type} {enc : TypeId × Value → H} {laid : List (String × DataW Unit)}
    (own : ownKnob C.prog.godebug = none) (started : os.Started) (noInit : C.prog.inits.idxOf? f = none) (hfn : C.prog.funcs[f]? = some fn)
    (witness : ∃ (w : World) (tape : Tape) (i : Input), w.os = os ∧ (w.forCall tape i).Shaped C.prog ∧ i.vars = [] ∧ Input.okWide C.prog (w.forCall tape i) .any w.heap.size f i ∧
      ((s.pre enc C.prog fn conds false (w.forCall tape i).memory i.args ∧ laidMetH C.prog laid (w.forCall tape i).memory) ∧ sizedMet enc C.prog fn (OpenSpec.ofChange s) false (w.forCall tape i).memory i.args) ∧ Assume.holds {} C.prog (lone (Frame.enter C.prog f i.args .normal) [] (w.forCall tape i)))
    (hl : laidOutB C.prog = true) (hts : fn.params.toList.all (fun t => C.prog.readableRec t && decide (t < C.prog.types.size)) = true) (hv : s.vars = []) (hr : fn.resultTypes = #[tb]) (hbool : C.prog.underlying tb = some .bool)
    (walk : ∀ (W : World) (base : Nat) (args : Array Value) (ds : List (DataW H)) (p : List MemPlace),
      (∀ (j : Nat) t v, fn.params[j]? = some t → args[j]? = some v → Value.okWide C.prog W .any base t v) →
      DataW.TrodAll enc C.prog W 0 (fun _ => true) true fn.params.toList args.toList ds p → (∀ x ∈ p, x.block < W.heap.size) → laidMetH C.prog laid W →
      ((s.fn H ds).results = [.lit (.bool true)] ∧ (s.fn H ds).args = ds ∧ (s.fn H ds).vars = []) ∧ Calls C.prog f args W fun e w' => e = .returned (.bool true) ∧ Below W.heap.size W w') :
    ReturnsInHanded {} C os f .any (fun w args => (s.pre enc C.prog fn conds false w args ∧ laidMetH C.prog laid w) ∧ sizedMet enc C.prog fn (OpenSpec.ofChange s) false w args) (s.post enc C.prog fn false true false false) := by
  refine returnsInHanded_of_change_and (X := fun w _ => laidMetH C.prog laid w) (fun _ _ _ hh h => h.of_heap hh) own started noInit hfn witness ?_
  intro W base args ds gs before hval hW _ _ hL _
  have hW' := hW
  obtain ⟨p, q, hA, hV, hp, hfz, hnd⟩ := hW
  have hlt : ∀ x ∈ p, x.block < W.heap.size := fun x hx => hW'.lt x (by rw [hp]; simp [hx])
  obtain ⟨hsp, hc⟩ := walk W base args ds p hval hA hlt hL
  refine hc.mono fun e W' ⟨he, hb⟩ => ⟨_, he, law_post hl (fun t ht => ?_) hv hr hbool hsp hW' hb⟩
  have := List.all_eq_true.1 hts t ht
  simpa using this
end Go.Proofs.YtmnkgnoljllnnaaDoor

/-
  A layout that came in, opened: its slices as lists.
-/
namespace Go.Proofs.YtmnkgnoljllnnaaDoor
open Go.RowKit Go.WideShapes Go.ChangeShapes Go.ChangeAt Go.Deep

section
variable {H : Type} {enc : TypeId × Value → H} {w : World} {base : Nat} {spare : Nat → Bool} {held : Bool}

theorem add_off (a : Addr) (i : Nat) (h : a.spot = none) : a.add i = ⟨a.block, a.off + i, none⟩ := by
  obtain ⟨b, o, s⟩ := a
  subst h
  unfold Addr.add
  by_cases hi : i = 0
  · simp [hi]
  · simp [hi]

/-- A slice of elements of k cells each, of which each is what an x is told by. -/
theorem open_rows {P : Program} {α : Type} [Inhabited α] {t e : TypeId} {k : Nat} {encA : α → List Value} {Good : α → Prop} {fuel : Nat} {cs : List Value} {x : DataW H × List MemPlace} (ht : P.underlying t = some (.slice e)) (hk : P.cellsOf e = k) (h0 : 0 < k)
    (hx : ∀ (fuel : Nat) (cs : List Value) (y : DataW H × List MemPlace), cs.length = k → DataW.trod enc P w base spare held fuel e cs = some y → ∃ x : α, encA x = cs ∧ Good x)
    (h : DataW.trod enc P w base spare held fuel t cs = some x) :
    ∃ (A : Option Addr) (len cap : Nat) (xs : List α), cs = [.slice A len cap] ∧ xs.length = len ∧ len ≤ cap ∧ cap ≤ 9223372036854775807 ∧ At w k encA A xs ∧ ∀ x ∈ xs, Good x := by
  rcases open_slice ht h with ⟨e, _⟩ | ⟨a, len, cap, m, n, D, Pl, rfl, hb, hl, hm, hmm, _, hi⟩
  · subst e
    exact ⟨none, 0, 0, [], rfl, rfl, by omega, by omega, .inl rfl, fun x hx => by cases hx⟩
  · have hM : maxLen = 9223372036854775807 := rfl
    rw [hM] at hm
    have hlm : len ≤ m := by rw [hmm]; split <;> omega
    have key : ∀ i, i < len → ∃ x : α, (∀ j, j < k → w.cell? (a.add (i * k + j)) = (encA x)[j]?) ∧ (encA x).length = k ∧ Good x := by
      intro i hlt
      obtain ⟨cs', hc, ht'⟩ := hi i (by omega)
      rw [hk] at hc
      obtain ⟨_, hcl, hat⟩ := World.cells?_some hc
      obtain ⟨x, rfl, hg⟩ := hx _ _ _ hcl ht'
      refine ⟨x, fun j hj => ?_, hcl, hg⟩
      rw [← add_add]
      exact hat j hj
    obtain ⟨f, hf⟩ := choose_lt key
    refine ⟨some a, len, cap, (List.range len).map f, rfl, by simp, hl, hm, ?_, fun x hx => ?_⟩
    · by_cases hz : len = 0
      · exact .inl (by simp [hz])
      · have g := (hf 0 (by omega)).1 0 h0
        have hs : 0 < (encA (f 0)).length := by rw [(hf 0 (by omega)).2.1]; exact h0
        rw [List.getElem?_eq_getElem hs] at g
        have hspot : a.spot = none := by
          have := World.cell?_spot g
          simpa [Addr.add] using this
        refine .inr ⟨a.block, a.off, by cases a; simp_all, ?_, fun j x hj i v hv => ?_⟩
        · have := World.block_lt_of_cell? _ _ g
          simpa [Addr.add] using this
        · have hjl : j < len := by
            have := (List.getElem?_eq_some_iff.1 hj).1
            simpa using this
          rw [List.getElem?_map, List.getElem?_range hjl] at hj
          simp only [Option.map_some, Option.some.injEq] at hj
          subst hj
          have hil : i < k := by rw [← (hf j hjl).2.1]; exact (List.getElem?_eq_some_iff.1 hv).1
          have := (hf j hjl).1 i hil
          rw [add_off _ _ hspot, ← Nat.add_assoc] at this
          rw [this, hv]
    · obtain ⟨i, hi, rfl⟩ := List.mem_map.1 hx
      exact (hf i (List.mem_range.1 hi)).2.2

instance : Inhabited Prt := ⟨⟨0, 0⟩⟩
instance : Inhabited Stp := ⟨⟨0, 0, 0⟩⟩
instance : Inhabited Flk := ⟨⟨0, 0, 0, 0⟩⟩
instance : Inhabited Ext' := ⟨⟨0, 0, []⟩⟩
instance : Inhabited (Ext' × Value) := ⟨(⟨0, 0, []⟩, .slice none 0 0)⟩

theorem wf_u8 {x : Int} (h : (Lit.int .u8 x).wf = true) : 0 ≤ x ∧ x ≤ 255 := by
  simp [Lit.wf, IntKind.min, IntKind.max, IntKind.signed, IntKind.bits] at h
  exact ⟨by omega, by omega⟩

theorem read_sec (fuel : Nat) (cs : List Value) (y : DataW H × List MemPlace) (hl : cs.length = 11) (h : DataW.trod enc Tryd.prog w base spare held fuel 48 cs = some y) : ∃ x : Sec, x.enc = cs ∧ (0 ≤ x.k ∧ x.k ≤ 255) := by
  have hc := fun o k => kinds_cells (n := 6) (ks := [.u8, .i64, .i64, .i64, .i64, .i64, .i64, .i64, .i64, .i64, .i64]) h (by kernel_rfl) o k
  match cs, hl with
  | [c0, c1, c2, c3, c4, c5, c6, c7, c8, c9, c10], _ =>
    obtain ⟨z0, e0, wk⟩ := hc 0 _ rfl
    obtain ⟨z1, e1, _⟩ := hc 1 _ rfl
    obtain ⟨z2, e2, _⟩ := hc 2 _ rfl
    obtain ⟨z3, e3, _⟩ := hc 3 _ rfl
    obtain ⟨z4, e4, _⟩ := hc 4 _ rfl
    obtain ⟨z5, e5, _⟩ := hc 5 _ rfl
    obtain ⟨z6, e6, _⟩ := hc 6 _ rfl
    obtain ⟨z7, e7, _⟩ := hc 7 _ rfl
    obtain ⟨z8, e8, _⟩ := hc 8 _ rfl
    obtain ⟨z9, e9, _⟩ := hc 9 _ rfl
    obtain ⟨z10, e10, _⟩ := hc 10 _ rfl
    obtain rfl := Option.some.inj e0
    obtain rfl := Option.some.inj e1
    obtain rfl := Option.some.inj e2
    obtain rfl := Option.some.inj e3
    obtain rfl := Option.some.inj e4
    obtain rfl := Option.some.inj e5
    obtain rfl := Option.some.inj e6
    obtain rfl := Option.some.inj e7
    obtain rfl := Option.some.inj e8
    obtain rfl := Option.some.inj e9
    obtain rfl := Option.some.inj e10
    exact ⟨⟨z0, z1, z2, z3, z4, z5, z6, z7, z8, z9, z10⟩, rfl, wf_u8 wk⟩
theorem read_sig (fuel : Nat) (cs : List Value) (y : DataW H × List MemPlace) (hl : cs.length = 2) (h : DataW.trod enc Tryd.prog w base spare held fuel 51 cs = some y) : ∃ x : Prt, x.enc = cs ∧ True := by
  have hc := fun o k => kinds_cells (n := 6) (ks := [.i64, .i64]) h (by kernel_rfl) o k
  match cs, hl with
  | [c0, c1], _ =>
    obtain ⟨z0, e0, _⟩ := hc 0 _ rfl
    obtain ⟨z1, e1, _⟩ := hc 1 _ rfl
    obtain rfl := Option.some.inj e0
    obtain rfl := Option.some.inj e1
    exact ⟨⟨z0, z1⟩, rfl, trivial⟩
theorem read_step (fuel : Nat) (cs : List Value) (y : DataW H × List MemPlace) (hl : cs.length = 3) (h : DataW.trod enc Tryd.prog w base spare held fuel 42 cs = some y) : ∃ x : Stp, x.enc = cs ∧ True := by
  have hc := fun o k => kinds_cells (n := 6) (ks := [.i64, .i64, .i64]) h (by kernel_rfl) o k
  match cs, hl with
  | [c0, c1, c2], _ =>
    obtain ⟨z0, e0, _⟩ := hc 0 _ rfl
    obtain ⟨z1, e1, _⟩ := hc 1 _ rfl
    obtain ⟨z2, e2, _⟩ := hc 2 _ rfl
    obtain rfl := Option.some.inj e0
    obtain rfl := Option.some.inj e1
    obtain rfl := Option.some.inj e2
    exact ⟨⟨z0, z1, z2⟩, rfl, trivial⟩
theorem read_flank (fuel : Nat) (cs : List Value) (y : DataW H × List MemPlace) (hl : cs.length = 4) (h : DataW.trod enc Tryd.prog w base spare held fuel 53 cs = some y) : ∃ x : Flk, x.enc = cs ∧ True := by
  have hc := fun o k => kinds_cells (n := 6) (ks := [.i64, .i64, .i64, .i64]) h (by kernel_rfl) o k
  match cs, hl with
  | [c0, c1, c2, c3], _ =>
    obtain ⟨z0, e0, _⟩ := hc 0 _ rfl
    obtain ⟨z1, e1, _⟩ := hc 1 _ rfl
    obtain ⟨z2, e2, _⟩ := hc 2 _ rfl
    obtain ⟨z3, e3, _⟩ := hc 3 _ rfl
    obtain rfl := Option.some.inj e0
    obtain rfl := Option.some.inj e1
    obtain rfl := Option.some.inj e2
    obtain rfl := Option.some.inj e3
    exact ⟨⟨z0, z1, z2, z3⟩, rfl, trivial⟩
set_option maxRecDepth 100000 in
theorem read_exit (fuel : Nat) (cs : List Value) (y : DataW H × List MemPlace) (hl : cs.length = 3) (h : DataW.trod enc Tryd.prog w base spare held fuel 40 cs = some y) : ∃ x : Ext' × Value, Ext'.enc x = cs ∧ Sl w 3 Stp.enc x.2 x.1.over := by
  obtain ⟨xs, n, _, _, _, hxl, hf⟩ := DataW.trod_struct Tryd.underlying40 h
  match cs, hl with
  | [c0, c1, c2], _ =>
    have h0 : DataW.trod enc Tryd.prog w base spare held n 37 (List.take (Tryd.prog.cellsOf 37) (List.drop 0 [c0, c1, c2])) = xs[0]? := hf 0 _ rfl
    have h1 : DataW.trod enc Tryd.prog w base spare held n 38 (List.take (Tryd.prog.cellsOf 38) (List.drop 2 [c0, c1, c2])) = xs[1]? := hf 1 _ rfl
    have hs : 0 < xs.length ∧ 1 < xs.length := by rw [hxl]; decide
    rw [List.getElem?_eq_getElem hs.1, show Tryd.prog.cellsOf 37 = 2 by kernel_rfl] at h0
    rw [List.getElem?_eq_getElem hs.2, show Tryd.prog.cellsOf 38 = 1 by kernel_rfl] at h1
    have hc := fun o k => kinds_cells (n := 6) (ks := [.i64, .i64]) h0 (by kernel_rfl) o k
    obtain ⟨z0, e0, _⟩ := hc 0 _ rfl
    obtain ⟨z1, e1, _⟩ := hc 1 _ rfl
    obtain rfl := Option.some.inj e0
    obtain rfl := Option.some.inj e1
    obtain ⟨A, len, cap, ys, e, hl, hlc, hcm, hA, _⟩ := open_rows (k := 3) (encA := Stp.enc) (Good := fun _ => True) Tryd.underlying38 (by kernel_rfl) (by omega) read_step h1
    obtain rfl : c2 = .slice A len cap := by simpa using e
    subst hl
    exact ⟨(⟨z0, z1, ys⟩, .slice A ys.length cap), rfl, A, cap, rfl, hlc, hcm, hA⟩

set_option maxRecDepth 100000 in
theorem open_layout {r : Reach} {b0 : Nat} {v : Value} {d : DataW H} {p : List MemPlace} (hv : Value.okWide Tryd.prog w r b0 29 v) (h : DataW.Trod enc Tryd.prog w base spare held 29 v d p) : ∃ (L : Lay) (q : Where), v = L.val q ∧ LayAt w q L := by
  obtain ⟨cs, rfl, hsz⟩ := okWide_struct Tryd.underlying29 hv
  obtain ⟨l⟩ := cs
  obtain ⟨fuel, hf⟩ := h
  obtain ⟨xs, n, _, _, _, hxl, hf⟩ := DataW.trod_struct Tryd.underlying29 hf
  match l, hsz.trans (show Tryd.prog.cellsOf 29 = 11 by kernel_rfl) with
  | [c0, c1, c2, c3, c4, c5, c6, c7, c8, c9, c10], _ =>
    have h0 : DataW.trod enc Tryd.prog w base spare held n 22 (List.take (Tryd.prog.cellsOf 22) (List.drop 0 [c0, c1, c2, c3, c4, c5, c6, c7, c8, c9, c10])) = xs[0]? := hf 0 _ rfl
    have h1 : DataW.trod enc Tryd.prog w base spare held n 23 (List.take (Tryd.prog.cellsOf 23) (List.drop 1 [c0, c1, c2, c3, c4, c5, c6, c7, c8, c9, c10])) = xs[1]? := hf 1 _ rfl
    have h2 : DataW.trod enc Tryd.prog w base spare held n 24 (List.take (Tryd.prog.cellsOf 24) (List.drop 2 [c0, c1, c2, c3, c4, c5, c6, c7, c8, c9, c10])) = xs[2]? := hf 2 _ rfl
    have h3 : DataW.trod enc Tryd.prog w base spare held n 25 (List.take (Tryd.prog.cellsOf 25) (List.drop 3 [c0, c1, c2, c3, c4, c5, c6, c7, c8, c9, c10])) = xs[3]? := hf 3 _ rfl
    have h4 : DataW.trod enc Tryd.prog w base spare held n 27 (List.take (Tryd.prog.cellsOf 27) (List.drop 4 [c0, c1, c2, c3, c4, c5, c6, c7, c8, c9, c10])) = xs[4]? := hf 4 _ rfl
    have hs : 0 < xs.length ∧ 1 < xs.length ∧ 2 < xs.length ∧ 3 < xs.length ∧ 4 < xs.length := by rw [hxl]; decide
    rw [List.getElem?_eq_getElem hs.1, show Tryd.prog.cellsOf 22 = 1 by kernel_rfl] at h0
    rw [List.getElem?_eq_getElem hs.2.1, show Tryd.prog.cellsOf 23 = 1 by kernel_rfl] at h1
    rw [List.getElem?_eq_getElem hs.2.2.1, show Tryd.prog.cellsOf 24 = 1 by kernel_rfl] at h2
    rw [List.getElem?_eq_getElem hs.2.2.2.1, show Tryd.prog.cellsOf 25 = 1 by kernel_rfl] at h3
    rw [List.getElem?_eq_getElem hs.2.2.2.2, show Tryd.prog.cellsOf 27 = 7 by kernel_rfl] at h4
    obtain ⟨A0, len0, cap0, ys0, e0, hl0, hlc0, hcm0, hA0, hG0⟩ := open_rows (k := 11) (encA := Sec.enc) (Good := fun x => 0 ≤ x.k ∧ x.k ≤ 255) Tryd.underlying22 (by kernel_rfl) (by omega) read_sec h0
    obtain ⟨A1, len1, cap1, ys1, e1, hl1, hlc1, hcm1, hA1, _⟩ := open_rows (k := 2) (encA := Prt.enc) (Good := fun _ => True) Tryd.underlying23 (by kernel_rfl) (by omega) read_sig h1
    obtain ⟨A2, len2, cap2, ys2, e2, hl2, hlc2, hcm2, hA2, hG2⟩ := open_rows (k := 3) (encA := Ext'.enc) (Good := fun x => Sl w 3 Stp.enc x.2 x.1.over) Tryd.underlying24 (by kernel_rfl) (by omega) read_exit h2
    obtain ⟨A3, len3, cap3, ys3, e3, hl3, hlc3, hcm3, hA3, _⟩ := open_rows (k := 4) (encA := Flk.enc) (Good := fun _ => True) Tryd.underlying25 (by kernel_rfl) (by omega) read_flank h3
    obtain rfl : c0 = .slice A0 len0 cap0 := by simpa using e0
    obtain rfl : c1 = .slice A1 len1 cap1 := by simpa using e1
    obtain rfl : c2 = .slice A2 len2 cap2 := by simpa using e2
    obtain rfl : c3 = .slice A3 len3 cap3 := by simpa using e3
    have hc := fun o k => kinds_cells (n := 6) (ks := [.i64, .i64, .i64, .i64, .i64, .i64, .i64]) h4 (by kernel_rfl) o k
    obtain ⟨z0, f0, _⟩ := hc 0 _ rfl
    obtain ⟨z1, f1, _⟩ := hc 1 _ rfl
    obtain ⟨z2, f2, _⟩ := hc 2 _ rfl
    obtain ⟨z3, f3, _⟩ := hc 3 _ rfl
    obtain ⟨z4, f4, _⟩ := hc 4 _ rfl
    obtain ⟨z5, f5, _⟩ := hc 5 _ rfl
    obtain ⟨z6, f6, _⟩ := hc 6 _ rfl
    obtain rfl := Option.some.inj f0
    obtain rfl := Option.some.inj f1
    obtain rfl := Option.some.inj f2
    obtain rfl := Option.some.inj f3
    obtain rfl := Option.some.inj f4
    obtain rfl := Option.some.inj f5
    obtain rfl := Option.some.inj f6
    subst hl0 hl1 hl2 hl3
    refine ⟨⟨ys0, ys1, ys2.map (·.1), ys3, z0, z1, z2, z3, z4, z5, z6⟩, ⟨A0, A1, A2, A3, cap0, cap1, cap2, cap3⟩, ?_, hA0, hA1, ⟨ys2, rfl, hA2, hG2⟩, hA3, ⟨hlc0, hcm0⟩, ⟨hlc1, hcm1⟩, ⟨by simpa using hlc2, hcm2⟩, ⟨hlc3, hcm3⟩, hG0⟩
    simp [Lay.val]
end
end Go.Proofs.YtmnkgnoljllnnaaDoor

/-
  What the three listed variables (port.kinds, port.none, join.end) hold, out of the rows' condition; parameters of one kind each, opened.
-/
namespace Go.Proofs.YtmnkgnoljllnnaaDoor
open Go.RowKit Go.WideShapes Go.ChangeShapes Go.ChangeAt Go.WideMaps Go.WideElems Go.Joins Go.Deep

theorem ownP : ownKnob Tryd.prog.godebug = none := by kernel_rfl
theorem laidP : laidOutB Tryd.prog = true := by kernel_rfl
abbrev laidL : List (String × DataW Unit) := [("lockbar/port.kinds", Rows.laid_lockbar_port_kinds), ("lockbar/port.none", Rows.laid_lockbar_port_none), ("lockbar/join.end", Rows.laid_lockbar_join_end)]
theorem gKinds : Tryd.prog.globalNamed "lockbar/port.kinds" = some 2 := by kernel_rfl
theorem gNone : Tryd.prog.globalNamed "lockbar/port.none" = some 0 := by kernel_rfl
theorem gEnd : Tryd.prog.globalNamed "lockbar/join.end" = some 1 := by kernel_rfl
theorem tEnd : (Tryd.prog.globals[1]?).map (·.type) = some 37 := by kernel_rfl
theorem tKinds : (Tryd.prog.globals[2]?).map (·.type) = some 106 := by kernel_rfl
theorem tNone : (Tryd.prog.globals[0]?).map (·.type) = some 37 := by kernel_rfl

theorem leafs_none_all : (List.range 2).map (leaf (H := Unit) Tryd.prog 4 37 Rows.laid_lockbar_port_none) = (List.range 2).map (fun o => noneL[o]?) := by kernel_rfl
theorem leafs_kinds_all : (List.range 28).map (leaf (H := Unit) Tryd.prog 6 106 Rows.laid_lockbar_port_kinds) = (List.range 28).map (fun o => kindL[o]?) := by kernel_rfl
theorem leafs_end_all : (List.range 2).map (leaf (H := Unit) Tryd.prog 4 37 Rows.laid_lockbar_join_end) = (List.range 2).map (fun o => noneL[o]?) := by kernel_rfl
theorem leafs_end (o : Nat) (ho : o < 2) : leaf (H := Unit) Tryd.prog 4 37 Rows.laid_lockbar_join_end o = noneL[o]? := by
  have h := congrArg (fun l => l[o]?) leafs_end_all
  simp only [List.getElem?_map, List.getElem?_range ho, Option.map_some, Option.some.injEq] at h
  exact h
theorem leafs_none (o : Nat) (ho : o < 2) : leaf (H := Unit) Tryd.prog 4 37 Rows.laid_lockbar_port_none o = noneL[o]? := by
  have h := congrArg (fun l => l[o]?) leafs_none_all
  simp only [List.getElem?_map, List.getElem?_range ho, Option.map_some, Option.some.injEq] at h
  exact h
theorem leafs_kinds (o : Nat) (ho : o < 28) : leaf (H := Unit) Tryd.prog 6 106 Rows.laid_lockbar_port_kinds o = kindL[o]? := by
  have h := congrArg (fun l => l[o]?) leafs_kinds_all
  simp only [List.getElem?_map, List.getElem?_range ho, Option.map_some, Option.some.injEq] at h
  exact h

theorem kinds_of_laid {W : World} (h : laidMetH Tryd.prog laidL W) : Kinds W ∧ JEnd W := by
  rw [MakeChecks.laidMetH_plain _ _ _ (by kernel_rfl)] at h
  obtain ⟨ps, ⟨g0, t0, cs0, f0, p0, q0, hg0, ht0, hv0, hd0, ⟨g1, t1, cs1, f1, p1, q1, hg1, ht1, hv1, hd1, ⟨g2, t2, cs2, f2, p2, q2, hg2, ht2, hv2, hd2, _, _⟩, _⟩, _⟩, _, _⟩ := h
  obtain rfl := Option.some.inj (gKinds.symm.trans hg0)
  obtain rfl := Option.some.inj (gNone.symm.trans hg1)
  obtain rfl := Option.some.inj (gEnd.symm.trans hg2)
  obtain rfl := Option.some.inj (tKinds.symm.trans ht0)
  obtain rfl := Option.some.inj (tNone.symm.trans ht1)
  obtain rfl := Option.some.inj (tEnd.symm.trans ht2)
  have he : ∀ (o : Nat) (v : Value), noneL[o]? = some v → W.cell? ⟨1, o, none⟩ = some v := fun o v hv => by
    have h2 := leaf_cell 4 hd2 ((leafs_end o (List.getElem?_eq_some_iff.1 hv).1).trans hv)
    have := World.var?_cell hg2 hv2 o
    rw [this]
    simpa using h2
  refine ⟨⟨fun o v hv => ?_, fun o v hv => ?_⟩, he 0 _ rfl, he 1 _ rfl⟩
  · have h2 := leaf_cell 4 hd1 ((leafs_none o (List.getElem?_eq_some_iff.1 hv).1).trans hv)
    have := World.var?_cell hg1 hv1 o
    rw [this]
    simpa using h2
  · have h2 := leaf_cell 6 hd0 ((leafs_kinds o (List.getElem?_eq_some_iff.1 hv).1).trans hv)
    have := World.var?_cell hg0 hv0 o
    rw [this]
    simpa using h2

/-- The door's own heap meets the condition: three closed facts. -/
theorem door_met (os : Os) (args : Array Value) : laidMetH Tryd.prog laidL ((World.doorLaid Tryd.prog 400 os).forCall (fun _ _ => 0) ⟨#[], args, []⟩).memory :=
  laidMetH_of_parts3 (fuel := 8) (laidMet_of_run' 8 (by kernel_rfl) (by kernel_rfl)) (by kernel_rfl) (by kernel_rfl)

set_option maxRecDepth 100000 in
theorem open_port {H : Type} {enc : TypeId × Value → H} {w : World} {base : Nat} {spare : Nat → Bool} {held : Bool} {r : Reach} {b0 : Nat} {v : Value} {d : DataW H} {p : List MemPlace}
    (hv : Value.okWide Tryd.prog w r b0 37 v) (h : DataW.Trod enc Tryd.prog w base spare held 37 v d p) : ∃ x0 x1, v = .agg #[.int .i64 x0, .int .i64 x1] := by
  obtain ⟨cs, rfl, hsz⟩ := okWide_struct Tryd.underlying37 hv
  obtain ⟨l⟩ := cs
  obtain ⟨fuel, hf⟩ := h
  have hc := fun o k => kinds_cells (n := 6) (ks := [.i64, .i64]) hf (by kernel_rfl) o k
  match l, hsz.trans (show Tryd.prog.cellsOf 37 = 2 by kernel_rfl) with
  | [c0, c1], _ =>
    obtain ⟨z0, e0, _⟩ := hc 0 _ rfl
    obtain ⟨z1, e1, _⟩ := hc 1 _ rfl
    obtain rfl := Option.some.inj e0
    obtain rfl := Option.some.inj e1
    exact ⟨z0, z1, rfl⟩
set_option maxRecDepth 100000 in
theorem open_step {H : Type} {enc : TypeId × Value → H} {w : World} {base : Nat} {spare : Nat → Bool} {held : Bool} {r : Reach} {b0 : Nat} {v : Value} {d : DataW H} {p : List MemPlace}
    (hv : Value.okWide Tryd.prog w r b0 42 v) (h : DataW.Trod enc Tryd.prog w base spare held 42 v d p) : ∃ x0 x1 x2, v = .agg #[.int .i64 x0, .int .i64 x1, .int .i64 x2] := by
  obtain ⟨cs, rfl, hsz⟩ := okWide_struct Tryd.underlying42 hv
  obtain ⟨l⟩ := cs
  obtain ⟨fuel, hf⟩ := h
  have hc := fun o k => kinds_cells (n := 6) (ks := [.i64, .i64, .i64]) hf (by kernel_rfl) o k
  match l, hsz.trans (show Tryd.prog.cellsOf 42 = 3 by kernel_rfl) with
  | [c0, c1, c2], _ =>
    obtain ⟨z0, e0, _⟩ := hc 0 _ rfl
    obtain ⟨z1, e1, _⟩ := hc 1 _ rfl
    obtain ⟨z2, e2, _⟩ := hc 2 _ rfl
    obtain rfl := Option.some.inj e0
    obtain rfl := Option.some.inj e1
    obtain rfl := Option.some.inj e2
    exact ⟨z0, z1, z2, rfl⟩
end Go.Proofs.YtmnkgnoljllnnaaDoor

/-
  What a layout that hangs together is like, plainly: its rules, one by one; and with some signals, exits, flanks left out.
-/
namespace Go.Proofs.YtmnkgnoljllnnaaDoor
open Go.RowKit Go.Shelf

theorem idx_neg {α : Type} {p : α → Bool} {xs : List α} : idxOf' p xs < 0 ↔ ∀ x ∈ xs, p x = false := by
  have h := idx_any (p := p) (xs := xs)
  constructor
  · intro hn x hx
    rw [decide_eq_false (by omega)] at h
    exact by simpa using List.any_eq_false.1 h.symm x hx
  · intro ha
    rw [List.any_eq_false.2 (fun x hx => by rw [ha x hx]; simp)] at h
    have := of_decide_eq_false h
    omega
theorem dups_none {P : Nat → Nat → Bool} : ∀ {n : Nat}, dups P n = [] → ∀ j, j < n → dupAt P j = false
  | 0, _, j, hj => absurd hj (Nat.not_lt_zero _)
  | n + 1, h, j, hj => by
    unfold dups at h
    obtain ⟨h1, h2⟩ := List.append_eq_nil_iff.1 h
    by_cases e : j = n
    · subst e
      cases hd : dupAt P j with
      | false => rfl
      | true => rw [hd] at h2; cases h2
    · exact dups_none h1 j (by omega)
theorem dups_none' {P : Nat → Nat → Bool} : ∀ {n : Nat}, (∀ j, j < n → dupAt P j = false) → dups P n = []
  | 0, _ => rfl
  | k + 1, h => by
    unfold dups
    rw [dups_none' (n := k) (fun j hj => h j (by omega)), h k (by omega)]
    rfl
theorem dupAt_false {P : Nat → Nat → Bool} {k : Nat} : dupAt P k = false ↔ ∀ i, i < k → P i k = false := by
  unfold dupAt
  rw [List.any_eq_false]
  constructor
  · intro h i hi; simpa using h i (List.mem_range.2 hi)
  · intro h i hi; rw [h i (List.mem_range.1 hi)]; simp
theorem first_neg {P : Nat → Nat → Bool} {n : Nat} : firstDup P n < 0 ↔ ∀ k, k < n → ∀ i, i < k → P i k = false := by
  have key : firstDup P n < 0 ↔ dups P n = [] := by
    unfold firstDup
    constructor
    · intro h
      cases hd : dups P n with
      | nil => rfl
      | cons a r => rw [hd] at h; simp at h; omega
    · intro h; rw [h]; decide
  rw [key]
  constructor
  · intro h k hk; exact dupAt_false.1 (dups_none h k hk)
  · intro h; exact dups_none' (fun j hj => dupAt_false.2 (h j hj))

theorem topoR_iff (L : Lay) : topoR L = true ↔ rightL L = true ∧ ∀ j, j < 5 → ruleN L j < 0 := by
  unfold topoR
  rw [decide_eq_true_iff]
  constructor
  · intro h
    cases hr : rightL L with
    | false => rw [check_no hr] at h; cases h
    | true =>
      refine ⟨rfl, ?_⟩
      have step : ∀ n, n ≤ 5 → ∀ j, j < n → ruleN L j < 0 := by
        intro n
        induction n with
        | zero => intro _ j hj; exact absurd hj (Nat.not_lt_zero _)
        | succ n ih =>
          intro hn j hj
          by_cases e : j = n
          · subst e
            apply Classical.byContradiction
            intro hc
            rw [check_hit hr (n := j) (by omega) (ih (by omega)) (by omega)] at h
            cases h
          · exact ih (by omega) j (by omega)
      exact step 5 (by omega)
  · rintro ⟨hr, ha⟩
    rw [check_none hr ha]
theorem rule0_neg (L : Lay) : ruleN L 0 < 0 ↔ joinedL L = true := by
  unfold ruleN
  cases joinedL L <;> simp
theorem rule1_neg (L : Lay) : ruleN L 1 < 0 ↔ ∀ k, k < L.sigs.length → ∀ i, i < k → sigP L i k = false := first_neg
theorem rule2_neg (L : Lay) : ruleN L 2 < 0 ↔ ∀ k, k < L.exits.length → ∀ i, i < k → exQ L i k = false := first_neg
theorem rule3_neg (L : Lay) : ruleN L 3 < 0 ↔ ∀ x ∈ L.exits, overOk L x = true := by
  refine idx_neg.trans ?_
  simp
theorem rule4_neg (L : Lay) : ruleN L 4 < 0 ↔ ∀ k, k < L.flanks.length → ∀ i, i < k → flQ L i k = false := first_neg

/-- A layout of the same sections and times, with other signals, exits, flanks. -/
def swap (L : Lay) (s : List Prt) (x : List Ext') (f : List Flk) : Lay := ⟨L.secs, s, x, f, L.t0, L.t1, L.t2, L.t3, L.t4, L.t5, L.t6⟩
theorem bey_swap (L : Lay) (s x f) (a b : Int) : beyL (swap L s x f) a b = beyL L a b := rfl
theorem has_swap (L : Lay) (s x f) (a b : Int) : hasB (swap L s x f) a b = hasB L a b := rfl
theorem step_swap (L : Lay) (s x f) (a b c : Int) : stepB (swap L s x f) a b c = stepB L a b c := rfl
theorem flank_swap (L : Lay) (s x f) (g : Flk) : flankT (swap L s x f) g = flankT L g := rfl
theorem overF_swap (L : Lay) (s x f) : ∀ (l : List Stp) (a b : Int) (ss : List Int), overF (swap L s x f) a b ss l = overF L a b ss l
  | [], _, _, _ => rfl
  | y :: r, a, b, ss => by
    unfold overF
    rw [bey_swap, overF_swap L s x f r]
theorem overOk_swap (L : Lay) (s x f) (e : Ext') : overOk (swap L s x f) e = overOk L e := overF_swap L s x f _ _ _ _
theorem pj_swap (L : Lay) (s x f) (i : Int) : ∀ n, pj (swap L s x f) i n = pj L i n
  | 0 => rfl
  | n + 1 => by
    unfold pj
    rw [pj_swap L s x f i n, has_swap]
theorem joined_swap (L : Lay) (s x f) : joinedL (swap L s x f) = joinedL L := by
  have e : ∀ i, secFine (swap L s x f) i = secFine L i := fun i => by
    unfold secFine
    rw [pj_swap]
    rfl
  unfold joinedL
  rw [show secFine (swap L s x f) = secFine L from funext e]
  rfl
/-- What layout.Right asks, part by part. -/
theorem right_iff (L : Lay) : rightL L = true ↔ (L.secs.length ≤ 24 ∧ L.sigs.length ≤ 12 ∧ L.exits.length ≤ 12 ∧ L.flanks.length ≤ 16) ∧ timesT L = true ∧ L.secs.all rightT = true ∧ (∀ f ∈ L.flanks, flankT L f = true) ∧
    (∀ c ∈ L.secs, ∀ j, j < 4 → 0 ≤ c.S j → hasB L (c.S j) (c.P j) = true) ∧ (∀ s ∈ L.sigs, hasB L s.s s.p = true) ∧ (∀ x ∈ L.exits, hasB L x.s x.p = true) ∧ ∀ x ∈ L.exits, overT L x = true := by
  unfold rightL sizesT portsT
  simp only [Bool.and_eq_true, decide_eq_true_eq, List.all_eq_true]
  constructor
  · rintro ⟨⟨⟨⟨⟨⟨⟨⟨h1, h2⟩, h3⟩, h4⟩, ht⟩, hs⟩, hf⟩, hp⟩, he⟩
    exact ⟨⟨h1, h2, h3, h4⟩, ht, hs, hf, fun c hc j hj h0 => hp _ ((portsL_mem L ⟨c.S j, c.P j⟩).2 (.inl ⟨c, hc, j, hj, h0, rfl⟩)), fun s hs' => hp s ((portsL_mem L s).2 (.inr (.inl hs'))),
      fun x hx => hp ⟨x.s, x.p⟩ ((portsL_mem L ⟨x.s, x.p⟩).2 (.inr (.inr ⟨x, hx, rfl⟩))), he⟩
  · rintro ⟨⟨h1, h2, h3, h4⟩, ht, hs, hf, hj, hsg, hx, he⟩
    refine ⟨⟨⟨⟨⟨⟨⟨⟨h1, h2⟩, h3⟩, h4⟩, ht⟩, hs⟩, hf⟩, fun p hp => ?_⟩, he⟩
    rcases (portsL_mem L p).1 hp with ⟨c, hc, j, hj4, h0, rfl⟩ | h | ⟨e, h, rfl⟩
    · exact hj c hc j hj4 h0
    · exact hsg p h
    · exact hx e h
theorem right_swap {L : Lay} {s : List Prt} {x : List Ext'} {f : List Flk} (h : rightL L = true) (hs : ∀ y ∈ s, y ∈ L.sigs) (hx : ∀ y ∈ x, y ∈ L.exits) (hf : ∀ y ∈ f, flankT L y = true) (ls : s.length ≤ 12) (lx : x.length ≤ 12) (lf : f.length ≤ 16) : rightL (swap L s x f) = true := by
  obtain ⟨h1, ht, hc, _, hj, hsg, hxx, he⟩ := (right_iff L).1 h
  refine (right_iff _).2 ⟨⟨h1.1, ls, lx, lf⟩, ht, hc, hf, hj, fun y hy => hsg y (hs y hy), fun y hy => hxx y (hx y hy), fun y hy => ?_⟩
  exact he y (hx y hy)
theorem sigP_take {L : Lay} {a i k : Nat} {x f} (hk : k < (L.sigs.take a).length) (hi : i < k) : sigP (swap L (L.sigs.take a) x f) i k = sigP L i k := by
  have h1 : k < a := by simp at hk; omega
  unfold sigP swap
  simp only [List.getElem?_take, if_pos h1, if_pos (Nat.lt_trans hi h1)]
theorem exQ_take {L : Lay} {a i k : Nat} {s f} (hk : k < (L.exits.take a).length) (hi : i < k) : exQ (swap L s (L.exits.take a) f) i k = exQ L i k := by
  have h1 : k < a := by simp at hk; omega
  unfold exQ swap
  simp only [List.getElem?_take, if_pos h1, if_pos (Nat.lt_trans hi h1)]
theorem flQ_take {L : Lay} {a i k : Nat} {s x} (hk : k < (L.flanks.take a).length) (hi : i < k) : flQ (swap L s x (L.flanks.take a)) i k = flQ L i k := by
  have h1 : k < a := by simp at hk; omega
  unfold flQ swap
  simp only [List.getElem?_take, if_pos h1, if_pos (Nat.lt_trans hi h1)]
/-- The rules that are kept, with some left out. -/
theorem rules_take {L : Lay} {a b c : Nat} (h0 : ruleN L 0 < 0) (h1 : ruleN L 1 < 0 ∨ L.sigs.take a = []) (h2 : ruleN L 2 < 0 ∨ L.exits.take b = []) (h3 : ∀ x ∈ L.exits.take b, overOk L x = true) (h4 : ruleN L 4 < 0 ∨ L.flanks.take c = []) :
    ∀ j, j < 5 → ruleN (swap L (L.sigs.take a) (L.exits.take b) (L.flanks.take c)) j < 0 := by
  intro j hj
  obtain rfl | rfl | rfl | rfl | rfl : j = 0 ∨ j = 1 ∨ j = 2 ∨ j = 3 ∨ j = 4 := by omega
  · rw [rule0_neg, joined_swap]; exact (rule0_neg L).1 h0
  · rw [rule1_neg]
    intro k hk i hi
    rcases h1 with h1 | h1
    · rw [sigP_take hk hi]
      exact (rule1_neg L).1 h1 k (Nat.lt_of_lt_of_le hk (by show (L.sigs.take a).length ≤ _; simp; omega)) i hi
    · rw [show (swap L (L.sigs.take a) (L.exits.take b) (L.flanks.take c)).sigs = L.sigs.take a from rfl, h1] at hk; exact absurd hk (Nat.not_lt_zero _)
  · rw [rule2_neg]
    intro k hk i hi
    rcases h2 with h2 | h2
    · rw [exQ_take hk hi]
      exact (rule2_neg L).1 h2 k (Nat.lt_of_lt_of_le hk (by show (L.exits.take b).length ≤ _; simp; omega)) i hi
    · rw [show (swap L (L.sigs.take a) (L.exits.take b) (L.flanks.take c)).exits = L.exits.take b from rfl, h2] at hk; exact absurd hk (Nat.not_lt_zero _)
  · rw [rule3_neg]
    intro x hx
    rw [overOk_swap]
    exact h3 x hx
  · rw [rule4_neg]
    intro k hk i hi
    rcases h4 with h4 | h4
    · rw [flQ_take hk hi]
      exact (rule4_neg L).1 h4 k (Nat.lt_of_lt_of_le hk (by show (L.flanks.take c).length ≤ _; simp; omega)) i hi
    · rw [show (swap L (L.sigs.take a) (L.exits.take b) (L.flanks.take c)).flanks = L.flanks.take c from rfl, h4] at hk; exact absurd hk (Nat.not_lt_zero _)
/-- With some left out it is as it was, if it may be. -/
theorem right_take {L : Lay} {a b c : Nat} (h : rightL L = true) : rightL (swap L (L.sigs.take a) (L.exits.take b) (L.flanks.take c)) = true := by
  obtain ⟨⟨_, l1, l2, l3⟩, _, _, hf, _⟩ := (right_iff L).1 h
  exact right_swap h (fun y hy => List.mem_of_mem_take hy) (fun y hy => List.mem_of_mem_take hy) (fun y hy => hf y (List.mem_of_mem_take hy)) (by simp; omega) (by simp; omega) (by simp; omega)
theorem topo_take {L : Lay} {a b c : Nat} (h : topoR L = true) : topoR (swap L (L.sigs.take a) (L.exits.take b) (L.flanks.take c)) = true := by
  obtain ⟨hr, ha⟩ := (topoR_iff L).1 h
  refine (topoR_iff _).2 ⟨right_take hr, rules_take (ha 0 (by omega)) (.inl (ha 1 (by omega))) (.inl (ha 2 (by omega))) (fun x hx => (rule3_neg L).1 (ha 3 (by omega)) x (List.mem_of_mem_take hx)) (.inl (ha 4 (by omega)))⟩

/-! The two builtins, of two integers. -/
def maxI (x y : Int) : Int := if y > x then y else x
def minI (x y : Int) : Int := if y < x then y else x
theorem max_two (ats : Array TypeId) (ty : TypeId) (k k' : IntKind) (x y : Int) : Builtin.max_ ats ty #[.int k x, .int k' y] = pure (.int k (maxI x y)) := rfl
theorem min_two (ats : Array TypeId) (ty : TypeId) (k k' : IntKind) (x y : Int) : Builtin.min_ ats ty #[.int k x, .int k' y] = pure (.int k (minI x y)) := rfl
theorem clamp (a : Int) (n : Nat) : ∃ k : Nat, minI (maxI a 0) (n : Int) = (k : Int) ∧ k ≤ n := by
  refine ⟨(minI (maxI a 0) (n : Int)).toNat, ?_, ?_⟩ <;> unfold minI maxI <;> split <;> split <;> omega
/-! Where a part of it lies. -/
theorem At.take {α : Type} {W : World} {k : Nat} {enc : α → List Value} {A : Option Addr} {xs : List α} (h : At W k enc A xs) (n : Nat) : At W k enc A (xs.take n) := by
  rcases h with h | ⟨b, off, e, hb, hc⟩
  · exact .inl (by rw [h]; simp)
  · refine .inr ⟨b, off, e, hb, fun j x hj i v hv => hc j x ?_ i v hv⟩
    rw [List.getElem?_take] at hj
    split at hj
    · exact hj
    · cases hj
theorem ExAt.take {W : World} {A : Option Addr} {xs : List Ext'} (h : ExAt W A xs) (n : Nat) : ExAt W A (xs.take n) := by
  obtain ⟨es, e, h1, h2⟩ := h
  exact ⟨es.take n, by rw [← e, List.map_take], h1.take n, fun y hy => h2 y (List.mem_of_mem_take hy)⟩
theorem LayAt.take {W : World} {p : Where} {L : Lay} (h : LayAt W p L) (a b c : Nat) : LayAt W p (swap L (L.sigs.take a) (L.exits.take b) (L.flanks.take c)) :=
  ⟨h.secs, h.sigs.take a, h.exits.take b, h.flanks.take c, h.l0, ⟨Nat.le_trans (by show (L.sigs.take a).length ≤ _; simp; omega) h.l1.1, h.l1.2⟩, ⟨Nat.le_trans (by show (L.exits.take b).length ≤ _; simp; omega) h.l2.1, h.l2.2⟩, ⟨Nat.le_trans (by show (L.flanks.take c).length ≤ _; simp; omega) h.l3.1, h.l3.2⟩, h.kinds⟩
end Go.Proofs.YtmnkgnoljllnnaaDoor
