/-
  The walk of TopoTells.
-/
import Derived.Test.YtmnkgnoljllnnaaDoorM5

namespace Go.Proofs.YtmnkgnoljllnnaaDoor
open Go.RowKit Go.Shelf

set_option maxRecDepth 100000 in
set_option maxHeartbeats 16000000 in
theorem topoTells_walk (L : Lay) (P : Where) (x : Int) (w : World) (hL : LayAt w P L) (KE : Kinds w ∧ JEnd w) :
    Calls Tryd.prog 3 #[L.val P, .int .i64 x] w fun e w' => e = .returned (.bool true) ∧ Below w.heap.size w w' := by
  have hG := fun w1 (b : Below w.heap.size w w1) => rGreat_of L P w1 (hL.below b)
  have h1 := fun w1 (b : Below w.heap.size w w1) => check_any L P w1 (hL.below b) (KE.1.below b) (KE.2.below b)
  have h2 := fun w1 (b : Below w.heap.size w w1) => rCheck_any L P w1 (hL.below b)
  have h3 := fun w1 (b : Below w.heap.size w w1) => topoRight_any L P w1 (hL.below b) (KE.1.below b) (KE.2.below b)
  have h4 := fun w1 (b : Below w.heap.size w w1) => rTopoRight_any L P w1 (hL.below b)
  have h5 := fun w1 (b : Below w.heap.size w w1) => over2_any L P x w1 (hL.below b) (KE.1.below b) (KE.2.below b)
  have h6 := fun w1 (b : Below w.heap.size w w1) => rOver_any L P x w1 (hL.below b)
  have hW := fun w1 (b : Below w.heap.size w w1) => wakes9_any w1 (KE.1.below b) (KE.2.below b)
  generalize topoR L = tR at h3 h4
  generalize overX L x = oX at h5 h6
  generalize checkL L = cr at h1 h2
  obtain ⟨x0, x1, x2⟩ := cr
  dsimp only at h1 h2
  obtain ⟨a0, a1, a2, a3, p0, p1, p2, p3⟩ := P
  unfold Lay.val at hG h1 h2 h3 h4 h5 h6 ⊢
  have HG := Lib.hid hG
  have HC := Lib.hid (⟨h1, h2⟩ : _ ∧ _)
  have HT := Lib.hid (⟨h3, h4, h5, h6, hW⟩ : _ ∧ _ ∧ _ ∧ _ ∧ _)
  clear hG h1 h2 h3 h4 h5 h6 hW hL KE
  go_enter Tryd.func3, Tryd.ntmps3
  go_wp2_with fail
  (with_reducible refine (HG.out (w.alloc (.cells #[.slice a0 L.secs.length p0, .slice a1 L.sigs.length p1, .slice a2 L.exits.length p2, .slice a3 L.flanks.length p3, .int .i64 L.t0, .int .i64 L.t1, .int .i64 L.t2, .int .i64 L.t3, .int .i64 L.t4, .int .i64 L.t5, .int .i64 L.t6] 29)) bself).mono ?_)
  rintro e w1 ⟨b, rfl, _, b1⟩
  have HB1 := Lib.hid (bnew b1)
  cases b with
  | true =>
    clear b1
    go_wp2_with fail
    (with_reducible refine (HT.out.2.2.2.2 _ HB1.out).mono ?_)
    rintro e w2 ⟨rfl, b2⟩
    have HB2 := Lib.hid (bchain HB1.out b2)
    clear b2
    go_wp2
    go_ret
    exact ⟨rfl, HB2.out⟩
  | false =>
    have hbx : BoxL w1 w.heap.size L ⟨a0, a1, a2, a3, p0, p1, p2, p3⟩ := (BoxL.make (L := L) (p := ⟨a0, a1, a2, a3, p0, p1, p2, p3⟩) _ rfl).below b1
    have HX1 := Lib.hid hbx
    obtain ⟨c0, c1, c2, c3, c4, c5, c6, c7, c8, c9, c10⟩ := hbx.cells
    have lg := hbx.1
    dsimp only at c0 c1 c2 c3
    clear b1 hbx
    go_wp2_with fail
    (with_reducible refine (HC.out.1 _ HB1.out).mono ?_)
    rintro e w2 ⟨rfl, b2⟩
    have hbx : BoxL w2 w.heap.size L ⟨a0, a1, a2, a3, p0, p1, p2, p3⟩ := HX1.out.below b2
    have HX2 := Lib.hid hbx
    have HB2 := Lib.hid (bchain HB1.out b2)
    clear c0 c1 c2 c3 c4 c5 c6 c7 c8 c9 c10 lg b2
    obtain ⟨c0, c1, c2, c3, c4, c5, c6, c7, c8, c9, c10⟩ := hbx.cells
    have lg := hbx.1
    dsimp only at c0 c1 c2 c3
    clear hbx
    go_wp2_with fail
    (with_reducible refine (HC.out.2 _ HB2.out).mono ?_)
    rintro e w3 ⟨rfl, b3⟩
    have HBX := Lib.hid (HX2.out.below b3)
    have B := Lib.hid (bchain HB2.out b3)
    clear c0 c1 c2 c3 c4 c5 c6 c7 c8 c9 c10 lg b3
    go_wp2_with fail
    refine wp_region_rel_below [([(5, none)], none), ([(8, none)], none), ([(26, some 1), (27, some 0)], none), ([(28, some 0)], none), ([(6, none), (29, some 0)], some (29, true)), ([(9, none), (29, some 1)], some (29, true)), ([(30, some 1), (31, some 0), (29, some 2)], some (29, true)), ([(29, some 3), (32, some 0)], none), ([(33, some 0)], none), ([(7, none), (34, some 0)], some (34, true)), ([(10, none), (34, some 1)], some (34, true)), ([(35, some 1), (36, some 0), (34, some 2)], some (34, true)), ([(34, some 3), (37, some 0)], none), ([(38, some 0)], none), ([(2, none), (39, some 0)], some (39, true)), ([(40, some 0), (39, some 1)], some (39, true)), ([(2, none), (39, some 2)], some (39, true)), ([(42, some 0), (39, some 3)], some (39, true)), ([(41, some 2), (43, some 0), (39, some 4)], some (39, true)), ([(39, some 5), (44, some 0)], none), ([(45, some 0)], none), ([(2, none), (46, some 0)], some (46, true)), ([(1, none), (46, some 1)], some (46, true)), ([(47, some 1), (48, some 0), (46, some 2)], some (46, true)), ([(2, none), (46, some 3)], some (46, true)), ([(1, none), (46, some 4)], some (46, true)), ([(50, some 1), (51, some 0), (46, some 5)], some (46, true)), ([(49, some 3), (52, some 0), (46, some 6)], some (46, true)), ([(46, some 7), (53, some 0)], none), ([(54, some 0)], none), ([(55, some 0)], some (55, true)), ([(55, some 1), (56, some 0)], none), ([(57, some 0)], none)] [(0, 4)] (by kernel_rfl) (by kernel_rfl) ?_
    refine ob_det (c := .int .i64 x0) ?_ ?_
    · intro ρ W hk hC
      simp only [seen, obOp]
      rintro h5
      replace h5 : ρ (.tmp 5) = .int .i64 x0 := h5.trans rfl
      exact rel_value (by simp [go_sem, h5]) hC
    refine ob_det (c := .int .i64 x0) ?_ ?_
    · intro ρ W hk hC
      simp only [seen, obOp]
      rintro h8
      replace h8 : ρ (.tmp 8) = .int .i64 x0 := h8.trans rfl
      exact rel_value (by simp [go_sem, h8]) hC
    refine ob_det (c := .bool true) ?_ ?_
    · intro ρ W hk hC
      simp only [seen, obOp, List.getD_cons_zero, List.getD_cons_succ]
      rintro h26 h27
      exact rel_value (by simp [go_sem, h26, h27]) hC
    refine ob_det (c := .bool true) ?_ ?_
    · intro ρ W hk hC
      simp only [seen, obOp, List.getD_cons_zero]
      rintro h28
      exact rel_value (by simp [go_sem, h28]) hC
    refine ob_det (c := .int .i64 x1) ?_ ?_
    · intro ρ W hk hC
      simp only [seen, obOp, List.getD_cons_zero]
      rintro h6 h29
      replace h6 : ρ (.tmp 6) = .int .i64 x1 := h6.trans rfl
      refine ⟨fun _ => ?_, fun hn => absurd h29 hn⟩
      exact rel_value (by simp [go_sem, h6]) hC
    refine ob_det (c := .int .i64 x1) ?_ ?_
    · intro ρ W hk hC
      simp only [seen, obOp, List.getD_cons_zero, List.getD_cons_succ]
      rintro h9 h29
      replace h9 : ρ (.tmp 9) = .int .i64 x1 := h9.trans rfl
      refine ⟨fun _ => ?_, fun hn => absurd h29 hn⟩
      exact rel_value (by simp [go_sem, h9]) hC
    refine ob_det (c := .bool true) ?_ ?_
    · intro ρ W hk hC
      simp only [seen, obOp, List.getD_cons_zero, List.getD_cons_succ]
      rintro h30 h31 h29
      refine ⟨fun _ => ?_, fun hn => absurd h29 hn⟩
      exact rel_value (by simp [go_sem, h30, h31]) hC
    refine ob_det (c := .bool true) ?_ ?_
    · intro ρ W hk hC
      simp only [seen, obOp, List.getD_cons_zero, List.getD_cons_succ]
      rintro h29 h32
      exact rel_value (by simp [go_sem, h29, h32, hk.const]) hC
    refine ob_det (c := .bool true) ?_ ?_
    · intro ρ W hk hC
      simp only [seen, obOp, List.getD_cons_zero]
      rintro h33
      exact rel_value (by simp [go_sem, h33]) hC
    refine ob_det (c := .int .i64 x2) ?_ ?_
    · intro ρ W hk hC
      simp only [seen, obOp, List.getD_cons_zero]
      rintro h7 h34
      replace h7 : ρ (.tmp 7) = .int .i64 x2 := h7.trans rfl
      refine ⟨fun _ => ?_, fun hn => absurd h34 hn⟩
      exact rel_value (by simp [go_sem, h7]) hC
    refine ob_det (c := .int .i64 x2) ?_ ?_
    · intro ρ W hk hC
      simp only [seen, obOp, List.getD_cons_zero, List.getD_cons_succ]
      rintro h10 h34
      replace h10 : ρ (.tmp 10) = .int .i64 x2 := h10.trans rfl
      refine ⟨fun _ => ?_, fun hn => absurd h34 hn⟩
      exact rel_value (by simp [go_sem, h10]) hC
    refine ob_det (c := .bool true) ?_ ?_
    · intro ρ W hk hC
      simp only [seen, obOp, List.getD_cons_zero, List.getD_cons_succ]
      rintro h35 h36 h34
      refine ⟨fun _ => ?_, fun hn => absurd h34 hn⟩
      exact rel_value (by simp [go_sem, h35, h36]) hC
    refine ob_det (c := .bool true) ?_ ?_
    · intro ρ W hk hC
      simp only [seen, obOp, List.getD_cons_zero, List.getD_cons_succ]
      rintro h34 h37
      exact rel_value (by simp [go_sem, h34, h37, hk.const]) hC
    refine ob_det (c := .bool true) ?_ ?_
    · intro ρ W hk hC
      simp only [seen, obOp, List.getD_cons_zero]
      rintro h38
      exact rel_value (by simp [go_sem, h38]) hC
    refine ob_det (c := .agg #[.slice a0 L.secs.length p0, .slice a1 L.sigs.length p1, .slice a2 L.exits.length p2, .slice a3 L.flanks.length p3, .int .i64 L.t0, .int .i64 L.t1, .int .i64 L.t2, .int .i64 L.t3, .int .i64 L.t4, .int .i64 L.t5, .int .i64 L.t6]) ?_ ?_
    · intro ρ W hk hC
      simp only [seen, obOp, List.getD_cons_zero]
      rintro h2 h39
      replace h2 : ρ (.tmp 2) = .pointer (some ⟨w.heap.size, 0, none⟩) := h2.trans rfl
      refine ⟨fun _ => ?_, fun hn => absurd h39 hn⟩
      exact rel_value (runLoad h2 (HBX.out.below hC)) hC
    refine ob_det (c := .bool tR) ?_ ?_
    · intro ρ W hk hC
      simp only [seen, obOp, List.getD_cons_zero, List.getD_cons_succ]
      rintro h40 h39
      refine ⟨fun _ => ?_, fun hn => absurd h39 hn⟩
      exact rel_call (f := 12) (args := #[.agg #[.slice a0 L.secs.length p0, .slice a1 L.sigs.length p1, .slice a2 L.exits.length p2, .slice a3 L.flanks.length p3, .int .i64 L.t0, .int .i64 L.t1, .int .i64 L.t2, .int .i64 L.t3, .int .i64 L.t4, .int .i64 L.t5, .int .i64 L.t6]]) (by simp [go_sem, h40, hk.func]) hC (HT.out.1 W (bchain B.out hC))
    refine ob_det (c := .agg #[.slice a0 L.secs.length p0, .slice a1 L.sigs.length p1, .slice a2 L.exits.length p2, .slice a3 L.flanks.length p3, .int .i64 L.t0, .int .i64 L.t1, .int .i64 L.t2, .int .i64 L.t3, .int .i64 L.t4, .int .i64 L.t5, .int .i64 L.t6]) ?_ ?_
    · intro ρ W hk hC
      simp only [seen, obOp, List.getD_cons_zero, List.getD_cons_succ]
      rintro h2 h39
      replace h2 : ρ (.tmp 2) = .pointer (some ⟨w.heap.size, 0, none⟩) := h2.trans rfl
      refine ⟨fun _ => ?_, fun hn => absurd h39 hn⟩
      exact rel_value (runLoad h2 (HBX.out.below hC)) hC
    refine ob_det (c := .bool tR) ?_ ?_
    · intro ρ W hk hC
      simp only [seen, obOp, List.getD_cons_zero, List.getD_cons_succ]
      rintro h42 h39
      refine ⟨fun _ => ?_, fun hn => absurd h39 hn⟩
      exact rel_call (f := 13) (args := #[.agg #[.slice a0 L.secs.length p0, .slice a1 L.sigs.length p1, .slice a2 L.exits.length p2, .slice a3 L.flanks.length p3, .int .i64 L.t0, .int .i64 L.t1, .int .i64 L.t2, .int .i64 L.t3, .int .i64 L.t4, .int .i64 L.t5, .int .i64 L.t6]]) (by simp [go_sem, h42, hk.func]) hC (HT.out.2.1 W (bchain B.out hC))
    refine ob_det (c := .bool true) ?_ ?_
    · intro ρ W hk hC
      simp only [seen, obOp, List.getD_cons_zero, List.getD_cons_succ]
      rintro h41 h43 h39
      refine ⟨fun _ => ?_, fun hn => absurd h39 hn⟩
      exact rel_value (by simp [go_sem, h41, h43]) hC
    refine ob_det (c := .bool true) ?_ ?_
    · intro ρ W hk hC
      simp only [seen, obOp, List.getD_cons_zero, List.getD_cons_succ]
      rintro h39 h44
      exact rel_value (by simp [go_sem, h39, h44, hk.const]) hC
    refine ob_det (c := .bool true) ?_ ?_
    · intro ρ W hk hC
      simp only [seen, obOp, List.getD_cons_zero]
      rintro h45
      exact rel_value (by simp [go_sem, h45]) hC
    refine ob_det (c := .agg #[.slice a0 L.secs.length p0, .slice a1 L.sigs.length p1, .slice a2 L.exits.length p2, .slice a3 L.flanks.length p3, .int .i64 L.t0, .int .i64 L.t1, .int .i64 L.t2, .int .i64 L.t3, .int .i64 L.t4, .int .i64 L.t5, .int .i64 L.t6]) ?_ ?_
    · intro ρ W hk hC
      simp only [seen, obOp, List.getD_cons_zero]
      rintro h2 h46
      replace h2 : ρ (.tmp 2) = .pointer (some ⟨w.heap.size, 0, none⟩) := h2.trans rfl
      refine ⟨fun _ => ?_, fun hn => absurd h46 hn⟩
      exact rel_value (runLoad h2 (HBX.out.below hC)) hC
    refine ob_det (c := .int .i64 x) ?_ ?_
    · intro ρ W hk hC
      simp only [seen, obOp, List.getD_cons_zero, List.getD_cons_succ]
      rintro h1 h46
      replace h1 : ρ (.tmp 1) = .int .i64 x := h1.trans rfl
      refine ⟨fun _ => ?_, fun hn => absurd h46 hn⟩
      exact rel_value (by simp [go_sem, h1]) hC
    refine ob_det (c := .bool oX) ?_ ?_
    · intro ρ W hk hC
      simp only [seen, obOp, List.getD_cons_zero, List.getD_cons_succ]
      rintro h47 h48 h46
      refine ⟨fun _ => ?_, fun hn => absurd h46 hn⟩
      exact rel_call (f := 14) (args := #[.agg #[.slice a0 L.secs.length p0, .slice a1 L.sigs.length p1, .slice a2 L.exits.length p2, .slice a3 L.flanks.length p3, .int .i64 L.t0, .int .i64 L.t1, .int .i64 L.t2, .int .i64 L.t3, .int .i64 L.t4, .int .i64 L.t5, .int .i64 L.t6], .int .i64 x]) (by simp [go_sem, h47, h48, hk.func]) hC (HT.out.2.2.1 W (bchain B.out hC))
    refine ob_det (c := .agg #[.slice a0 L.secs.length p0, .slice a1 L.sigs.length p1, .slice a2 L.exits.length p2, .slice a3 L.flanks.length p3, .int .i64 L.t0, .int .i64 L.t1, .int .i64 L.t2, .int .i64 L.t3, .int .i64 L.t4, .int .i64 L.t5, .int .i64 L.t6]) ?_ ?_
    · intro ρ W hk hC
      simp only [seen, obOp, List.getD_cons_zero, List.getD_cons_succ]
      rintro h2 h46
      replace h2 : ρ (.tmp 2) = .pointer (some ⟨w.heap.size, 0, none⟩) := h2.trans rfl
      refine ⟨fun _ => ?_, fun hn => absurd h46 hn⟩
      exact rel_value (runLoad h2 (HBX.out.below hC)) hC
    refine ob_det (c := .int .i64 x) ?_ ?_
    · intro ρ W hk hC
      simp only [seen, obOp, List.getD_cons_zero, List.getD_cons_succ]
      rintro h1 h46
      replace h1 : ρ (.tmp 1) = .int .i64 x := h1.trans rfl
      refine ⟨fun _ => ?_, fun hn => absurd h46 hn⟩
      exact rel_value (by simp [go_sem, h1]) hC
    refine ob_det (c := .bool oX) ?_ ?_
    · intro ρ W hk hC
      simp only [seen, obOp, List.getD_cons_zero, List.getD_cons_succ]
      rintro h50 h51 h46
      refine ⟨fun _ => ?_, fun hn => absurd h46 hn⟩
      exact rel_call (f := 15) (args := #[.agg #[.slice a0 L.secs.length p0, .slice a1 L.sigs.length p1, .slice a2 L.exits.length p2, .slice a3 L.flanks.length p3, .int .i64 L.t0, .int .i64 L.t1, .int .i64 L.t2, .int .i64 L.t3, .int .i64 L.t4, .int .i64 L.t5, .int .i64 L.t6], .int .i64 x]) (by simp [go_sem, h50, h51, hk.func]) hC (HT.out.2.2.2.1 W (bchain B.out hC))
    refine ob_det (c := .bool true) ?_ ?_
    · intro ρ W hk hC
      simp only [seen, obOp, List.getD_cons_zero, List.getD_cons_succ]
      rintro h49 h52 h46
      refine ⟨fun _ => ?_, fun hn => absurd h46 hn⟩
      exact rel_value (by simp [go_sem, h49, h52]) hC
    refine ob_det (c := .bool true) ?_ ?_
    · intro ρ W hk hC
      simp only [seen, obOp, List.getD_cons_zero, List.getD_cons_succ]
      rintro h46 h53
      exact rel_value (by simp [go_sem, h46, h53, hk.const]) hC
    refine ob_det (c := .bool true) ?_ ?_
    · intro ρ W hk hC
      simp only [seen, obOp, List.getD_cons_zero]
      rintro h54
      exact rel_value (by simp [go_sem, h54]) hC
    refine ob_det (c := .bool true) ?_ ?_
    · intro ρ W hk hC
      simp only [seen, obOp, List.getD_cons_zero]
      rintro h55
      refine ⟨fun _ => ?_, fun hn => absurd h55 hn⟩
      exact rel_call (f := 9) (args := #[]) (by simp [go_sem, hk.func]) hC (HT.out.2.2.2.2 W (bchain B.out hC))
    refine ob_det (c := .bool true) ?_ ?_
    · intro ρ W hk hC
      simp only [seen, obOp, List.getD_cons_zero, List.getD_cons_succ]
      rintro h55 h56
      exact rel_value (by simp [go_sem, h55, h56, hk.const]) hC
    refine ob_det (c := .bool true) ?_ ?_
    · intro ρ W hk hC
      simp only [seen, obOp, List.getD_cons_zero]
      rintro h57
      exact rel_value (by simp [go_sem, h57]) hC
    intro vs w5 hC5
    simp only [endSeen, List.getD_cons_zero]
    intro h4
    simp only [writeAll, List.setIfInBounds_toArray, List.set_cons_zero, List.set_cons_succ, h4]
    have HB5 := Lib.hid (bchain B.out hC5)
    clear hC5
    go_wp2
    go_ret
    exact ⟨rfl, HB5.out⟩
end Go.Proofs.YtmnkgnoljllnnaaDoor

/-
  TopoTells: which rule is not kept, and of what, which layouts hang together, which overlaps are such: topo answers as lockbarref09.
  Conditions: port.kinds and port.none (and join.end, where it is listed) start as the program's text lays them (the tied card; it ties them to the pruned copy that the seat holds).
-/
namespace Go.Proofs.YtmnkgnoljllnnaaDoor
open Go.RowKit Go.WideShapes Go.ChangeShapes Go.ChangeAt Go.WideMaps Go.WideElems Go.Joins Go.Deep

set_option maxRecDepth 100000 in
theorem topoTells_lifted (os : Os) (started : os.Started) (H : Type) (enc : TypeId × Value → H) :
    ReturnsInHanded {} Tryd.checked os 3 .any (fun w args => (Rows.topoTellsSpec.pre enc Tryd.prog Tryd.f3 [] false w args ∧ laidMetH Tryd.prog laidL w) ∧ sizedMet enc Tryd.prog Tryd.f3 (OpenSpec.ofChange Rows.topoTellsSpec) false w args)
      (Rows.topoTellsSpec.post enc Tryd.prog Tryd.f3 false true false false) := by
  refine law_lifted_laid (C := Tryd.checked) (tb := 4) ownP started (by kernel_rfl) Tryd.func3
    (ChangeSpec.witness_shaped (enc := enc) (C := Tryd.checked) (os := os) (X := fun w _ => laidMetH Tryd.prog laidL w) false (World.doorLaid Tryd.prog 400 os) #[.agg #[.slice none 0 0, .slice none 0 0, .slice none 0 0, .slice none 0 0, .int .i64 0, .int .i64 0, .int .i64 0, .int .i64 0, .int .i64 0, .int .i64 0, .int .i64 0], .int .i64 0] 8 rfl (World.shaped_of_RefB (by kernel_rfl) (by kernel_rfl)) (by kernel_rfl) (by kernel_rfl) (by kernel_rfl) (door_met os _))
    laidP (by kernel_rfl) rfl rfl Tryd.underlying4 ?_
  intro W base args ds p hval0 hA0 hlt hL
  have hval : ∀ (j : Nat) t v, Tryd.f3.params[j]? = some t → args[j]? = some v → Value.okWide Tryd.prog W .any base t v := hval0
  have hA : DataW.TrodAll enc Tryd.prog W 0 (fun _ => true) true Tryd.f3.params.toList args.toList ds p := hA0
  clear hval0 hA0
  rw [Tryd.params3] at hA hval
  obtain ⟨vs⟩ := args
  dsimp only at hA
  obtain ⟨v0, vs0, d0, ds0, p0, q0, rfl, rfl, rfl, h0, hA⟩ := trodAll_cons hA
  obtain ⟨v1, vs1, d1, ds1, p1, q1, rfl, rfl, rfl, h1, hA⟩ := trodAll_cons hA
  obtain ⟨rfl, rfl, rfl⟩ := trodAll_nil hA
  obtain ⟨L0, w0, rfl, hl0⟩ := open_layout (hval 0 29 v0 rfl rfl) h0
  obtain ⟨x1, rfl, rfl, rfl, b1⟩ := open_int Tryd.underlying3 (hval 1 3 v1 rfl rfl) h1
  exact ⟨⟨rfl, rfl, rfl⟩, topoTells_walk L0 w0 x1 W hl0 (kinds_of_laid hL)⟩

theorem topoTells_holds : Rows.TopoTellsSaid :=
  OpenClaim.holds_of_wide 3 Tryd.f3 rfl rfl rfl rfl rfl rfl rfl ⟨rfl, rfl, rfl, rfl, rfl⟩ rfl rfl rfl rfl rfl (by kernel_rfl) Tryd.func3 (by kernel_rfl)
    (of_decide_eq_true (by kernel_rfl)) (by unfold Func.isWrapper; first | (rw [if_pos (by decide +kernel)]; kernel_rfl) | (rw [if_neg (of_decide_eq_false (by kernel_rfl))]; exact ⟨rfl, rfl⟩))
    (fun os started H enc _ => topoTells_lifted os started H enc)

theorem topoTells_card : Rows.TopoTellsCardSaid :=
  Claim7.holds_tied_plain_at .later [] [.data, .data, .data] true (true, "3cd35ec731902af1efb8ad1e66760989928f8fbf6ddfd2ac00e438de07536a54") false
    topoTells_holds (fun _ h => by cases h) (by kernel_rfl) (fun _ h => by cases h) topoTells_row_tie rfl ⟨rfl, rfl⟩ (by kernel_rfl) rfl
    (fun f fn hf hfn => by
      obtain rfl : f = 3 := Option.some.inj ((show Tryd.prog.funcNamed "lockbar/lockbarlaw09.TopoTells" = some 3 by kernel_rfl).symm.trans hf) |>.symm
      obtain rfl : fn = Tryd.f3 := (Option.some.inj (Tryd.func3.symm.trans hfn)).symm
      exact ⟨by kernel_rfl, fun j t ht => by
        rw [Tryd.params3] at ht
        have hm : t ∈ [29, 3] := by simpa using Array.mem_of_getElem? ht
        have hall : ([29, 3].all fun u => !Tryd.prog.wantsStandIn u) = true := by kernel_rfl
        exact (show Tryd.prog.wantsStandIn t = false by simpa using List.all_eq_true.1 hall t hm)⟩)
    (by kernel_rfl)
#print axioms topoTells_card
end Go.Proofs.YtmnkgnoljllnnaaDoor
