/-
  The walk of LayoutOne.
-/
import Derived.Test.YtkphihbimdffjaaDoorOne3
import Derived.Test.YtkphihbimdffjaaDoorWakes
import Derived.Test.YtkphihbimdffjaaDoorRight
import Derived.Test.YtkphihbimdffjaaDoorSame2
import Derived.Deep.CutBlock
namespace Go.Proofs.YtkphihbimdffjaaDoor
open Go.RowKit Go.Shelf

set_option maxRecDepth 100000 in
set_option maxHeartbeats 16000000 in
theorem layoutOne_walk (L : Lay) (p : Where) (at0 n : Int) (w : World) (hL : LayAt w p L) (K : Kinds w) :
    Calls Tryd.prog 4 #[L.val p, .int .i64 at0, .int .i64 n] w fun e w' => e = .returned (.bool true) ∧ Below w.heap.size w w' := by
  have HRR := Lib.hid (fun w1 (b : Below w.heap.size w w1) => rRight_any L p w1 (hL.below b))
  have HW := Lib.hid (fun w1 (b : Below w.heap.size w w1) => wakes_any w1 (K.below b))
  have HOW := Lib.hid (fun w1 (b : Below w.heap.size w w1) (hf : Few L) => rOwn_any L p w1 (hL.below b) hf)
  have HLR := Lib.hid (fun (M : Lay) (q : Where) w1 (b : Below w.heap.size w w1) (hM : LayAt w1 q M) => rightLay_any M q w1 hM (K.below b))
  have HSM := Lib.hid (fun (M : Lay) (q : Where) w1 (b : Below w.heap.size w w1) (hM : LayAt w1 q M) => sameLay_any L M p q w1 (hL.below b) hM)
  have HX := Lib.hid (BoxL.make (W := w) (L := L) (p := p) (n := w.heap.size) 29 rfl)
  have HL := Lib.hid hL
  have hlm : L.secs.length ≤ 9223372036854775807 := Nat.le_trans hL.l0.1 hL.l0.2
  clear hL K
  obtain ⟨a0, a1, a2, a3, p0, p1, p2, p3⟩ := p
  unfold Lay.val at *
  go_enter Tryd.func4, Tryd.ntmps4
  go_wp2_with fail
  (with_reducible refine (HRR.out _ bself).mono ?_)
  rintro e w1 ⟨rfl, b1⟩
  have B1 := bchain bself b1
  have X1 := HX.out.below b1
  obtain ⟨c0, c1, c2, c3, c4, c5, c6, c7, c8, c9, c10⟩ := X1.cells
  dsimp only at c0 c1 c2 c3
  have lg := X1.1
  have HB1 := Lib.hid B1
  have HX1 := Lib.hid X1
  clear b1 B1 X1 HX HRR c1 c2 c3 c4 c5 c6 c7 c8 c9 c10
  cases hrl : rightL L
  case false =>
    go_wp2_with fail
    (with_reducible refine (HW.out _ HB1.out).mono ?_)
    rintro e w9 ⟨rfl, b9⟩
    have HB9 := Lib.hid (bchain (HB1.out) b9)
    clear b9
    go_wp2
    go_ret
    exact ⟨rfl, HB9.out⟩
  by_cases hl0 : L.secs.length = 0
  · have d1 : decide ((L.secs.length : Int) = 0) = true := decide_eq_true (by omega)
    have d1' : (L.secs.length : Int) = 0 := by omega
    go_wp2_with fail
    (with_reducible refine (HW.out _ HB1.out).mono ?_)
    rintro e w9 ⟨rfl, b9⟩
    have HB9 := Lib.hid (bchain (HB1.out) b9)
    clear b9
    go_wp2
    go_ret
    exact ⟨rfl, HB9.out⟩
  have d1 : decide ((L.secs.length : Int) = 0) = false := decide_eq_false (by omega)
  have d1' : ¬ (L.secs.length : Int) = 0 := by omega
  by_cases hn1 : n < 1
  · have d2 : decide (n < 1) = true := decide_eq_true hn1
    go_wp2_with fail
    (with_reducible refine (HW.out _ HB1.out).mono ?_)
    rintro e w9 ⟨rfl, b9⟩
    have HB9 := Lib.hid (bchain (HB1.out) b9)
    clear b9
    go_wp2
    go_ret
    exact ⟨rfl, HB9.out⟩
  have d2 : decide (n < 1) = false := decide_eq_false hn1
  by_cases hn2 : n > 1000
  · have d3 : decide (n > 1000) = true := decide_eq_true hn2
    go_wp2_with fail
    (with_reducible refine (HW.out _ HB1.out).mono ?_)
    rintro e w9 ⟨rfl, b9⟩
    have HB9 := Lib.hid (bchain (HB1.out) b9)
    clear b9
    go_wp2
    go_ret
    exact ⟨rfl, HB9.out⟩
  have d3 : decide (n > 1000) = false := decide_eq_false hn2
  have HRL := Lib.hid hrl
  have HFW := Lib.hid (right_few hrl)
  have hln : L.secs.length ≤ 1000 := HFW.out.1
  clear hrl
  go_upto_region 3 with fail
  have hl1 := Int.tmod_lt_of_pos at0 (show (0 : Int) < (L.secs.length : Int) by omega)
  have hl2 := Int.lt_tmod_of_pos at0 (show (0 : Int) < (L.secs.length : Int) by omega)
  have hp1 := Int.tmod_nonneg (L.secs.length : Int) (show (0 : Int) ≤ Int.tmod at0 (L.secs.length : Int) + (L.secs.length : Int) by omega)
  have hp2 := Int.tmod_lt_of_pos (Int.tmod at0 (L.secs.length : Int) + (L.secs.length : Int)) (show (0 : Int) < (L.secs.length : Int) by omega)
  obtain ⟨a, hj⟩ : ∃ j : Nat, Int.tmod (Int.tmod at0 (L.secs.length : Int) + (L.secs.length : Int)) (L.secs.length : Int) = (j : Int) := ⟨(Int.tmod (Int.tmod at0 (L.secs.length : Int) + (L.secs.length : Int)) (L.secs.length : Int)).toNat, by omega⟩
  have han : a < L.secs.length := by omega
  have hr2 : IntKind.i64.wrap (Int.tmod at0 (L.secs.length : Int) + (L.secs.length : Int)) = Int.tmod at0 (L.secs.length : Int) + (L.secs.length : Int) := IntWalk.i64_in _ (by omega)
  have hnz : ¬ L.secs = [] := fun h => hl0 (by rw [h]; rfl)
  have cs : ∀ V', ClB w1 V' → V'.cell? ⟨w.heap.size, 0, none⟩ = some (.slice a0 L.secs.length p0) := fun V' h => (HX1.out.below h).cells.1
  refine wp_region_rel_below [([(1, none)], none), ([(3, none)], none), ([(29, some 0)], none), ([(30, some 0)], none), ([(28, some 3), (31, some 0)], none), ([(3, none)], none), ([(33, some 0)], none), ([(34, some 0)], none), ([(32, some 3), (35, some 0)], none), ([(3, none)], none), ([(37, some 0)], none), ([(38, some 0)], none), ([(36, some 3), (39, some 0)], none), ([(40, some 0)], none)] [(0, 1)] (by kernel_rfl) (by kernel_rfl) ?_
  refine ob_det (c := .int .i64 at0) ?_ ?_
  · intro ρ W hk hC
    simp only [seen, obOp]
    rintro h1
    replace h1 : ρ (.tmp 1) = .int .i64 at0 := h1.trans rfl
    exact rel_value (by simp [go_sem, h1]) hC
  refine ob_det (c := .pointer (some ⟨w.heap.size, 0, none⟩)) ?_ ?_
  · intro ρ W hk hC
    simp only [seen, obOp]
    rintro h3
    replace h3 : ρ (.tmp 3) = .pointer (some ⟨w.heap.size, 0, none⟩) := h3.trans rfl
    exact rel_value (by simp [go_sem, h3]) hC
  refine ob_det (c := .slice a0 L.secs.length p0) ?_ ?_
  · intro ρ W hk hC
    simp only [seen, obOp, List.getD_cons_zero]
    rintro h29
    exact rel_value (by simp [go_sem, h29, cs W hC]) hC
  refine ob_det (c := .int .i64 (L.secs.length : Nat)) ?_ ?_
  · intro ρ W hk hC
    simp only [seen, obOp, List.getD_cons_zero]
    rintro h30
    exact rel_value (by simp [go_sem, h30]) hC
  refine ob_det (c := .int .i64 (Int.tmod at0 (L.secs.length : Nat))) ?_ ?_
  · intro ρ W hk hC
    simp only [seen, obOp, List.getD_cons_zero, List.getD_cons_succ]
    rintro h28 h31
    exact rel_value (by simp [go_sem, h28, h31, hnz]) hC
  refine ob_det (c := .pointer (some ⟨w.heap.size, 0, none⟩)) ?_ ?_
  · intro ρ W hk hC
    simp only [seen, obOp]
    rintro h3
    replace h3 : ρ (.tmp 3) = .pointer (some ⟨w.heap.size, 0, none⟩) := h3.trans rfl
    exact rel_value (by simp [go_sem, h3]) hC
  refine ob_det (c := .slice a0 L.secs.length p0) ?_ ?_
  · intro ρ W hk hC
    simp only [seen, obOp, List.getD_cons_zero]
    rintro h33
    exact rel_value (by simp [go_sem, h33, cs W hC]) hC
  refine ob_det (c := .int .i64 (L.secs.length : Nat)) ?_ ?_
  · intro ρ W hk hC
    simp only [seen, obOp, List.getD_cons_zero]
    rintro h34
    exact rel_value (by simp [go_sem, h34]) hC
  refine ob_det (c := .int .i64 (Int.tmod at0 (L.secs.length : Nat) + (L.secs.length : Nat))) ?_ ?_
  · intro ρ W hk hC
    simp only [seen, obOp, List.getD_cons_zero, List.getD_cons_succ]
    rintro h32 h35
    exact rel_value (by simp [go_sem, h32, h35, hr2]) hC
  refine ob_det (c := .pointer (some ⟨w.heap.size, 0, none⟩)) ?_ ?_
  · intro ρ W hk hC
    simp only [seen, obOp]
    rintro h3
    replace h3 : ρ (.tmp 3) = .pointer (some ⟨w.heap.size, 0, none⟩) := h3.trans rfl
    exact rel_value (by simp [go_sem, h3]) hC
  refine ob_det (c := .slice a0 L.secs.length p0) ?_ ?_
  · intro ρ W hk hC
    simp only [seen, obOp, List.getD_cons_zero]
    rintro h37
    exact rel_value (by simp [go_sem, h37, cs W hC]) hC
  refine ob_det (c := .int .i64 (L.secs.length : Nat)) ?_ ?_
  · intro ρ W hk hC
    simp only [seen, obOp, List.getD_cons_zero]
    rintro h38
    exact rel_value (by simp [go_sem, h38]) hC
  refine ob_det (c := .int .i64 (a : Nat)) ?_ ?_
  · intro ρ W hk hC
    simp only [seen, obOp, List.getD_cons_zero, List.getD_cons_succ]
    rintro h36 h39
    exact rel_value (by simp [go_sem, h36, h39, hnz, hj]) hC
  refine ob_det (c := .int .i64 (a : Nat)) ?_ ?_
  · intro ρ W hk hC
    simp only [seen, obOp, List.getD_cons_zero]
    rintro h40
    exact rel_value (by simp [go_sem, h40]) hC
  intro vs w2 hC2
  simp only [endSeen, List.getD_cons_zero]
  intro h1
  simp only [writeAll, List.setIfInBounds_toArray, List.set_cons_zero, List.set_cons_succ, h1]
  have HB2 := Lib.hid (bchain HB1.out hC2)
  have HX2 := Lib.hid (HX1.out.below hC2)
  clear hl1 hl2 hp1 hp2 hr2 hj cs h1 hC2 c0 lg HB1 HX1
  go_wp2_with fail
  go_loopw [7] (fun c wr => ∃ k : Nat, k ≤ 12 ∧ c = .int .i64 k ∧ Hid (Below w.heap.size w wr) ∧ Hid (BoxL wr w.heap.size L ⟨a0, a1, a2, a3, p0, p1, p2, p3⟩)) (fun c _ => 12 - (intOf c).toNat)
  case atStart => exact ⟨0, by omega, rfl, HB2, HX2⟩
  case round =>
    obtain ⟨k, hk, rfl, HBR, HXR⟩ := hrel
    clear HB2 HX2
    obtain ⟨c0, c1, c2, c3, c4, c5, c6, c7, c8, c9, c10⟩ := HXR.out.cells
    dsimp only at c0 c1 c2 c3
    have lg := HXR.out.1
    by_cases hlt : k < 12
    · have hki : (k : Int) < 12 := by omega
      have hkd : decide ((k : Int) < 12) = true := decide_eq_true hki
      go_wp2_with fail
      (with_reducible refine (HOW.out _ HBR.out HFW.out).mono ?_)
      rintro e w3 ⟨q, es, rfl, ho, b3⟩
      have HO3 := Lib.hid ho
      have HB3 := Lib.hid b3
      clear ho b3 c0 c1 c2 c3 c4 c5 c6 c7 c8 c9 c10 lg
      obtain ⟨b0, b1, b2, b3, q0, q1, q2, q3⟩ := q
      go_upto_region 8 with fail
      obtain ⟨g, hg⟩ : ∃ g, g = w3.heap.size := ⟨_, rfl⟩
      obtain ⟨W, hW⟩ : ∃ W, W = w3.alloc (.cells #[.slice b0 L.secs.length q0, .slice b1 L.sigs.length q1, .slice b2 L.exits.length q2, .slice b3 L.flanks.length q3, .int .i64 L.t0, .int .i64 L.t1, .int .i64 L.t2, .int .i64 L.t3, .int .i64 L.t4, .int .i64 L.t5, .int .i64 L.t6] 29) := ⟨_, rfl⟩
      have hM : MAt wr W g ⟨b0, b1, b2, b3, q0, q1, q2, q3⟩ L es := by
        have hb : Below w3.heap.size w3 W := by rw [hW]; exact bself
        refine ⟨HO3.out.below hb, ?_, ?_, bchain HB3.out hb⟩
        · rw [hW, hg]
          exact World.alloc_heap_new _ _
        · rw [hg]
          exact HB3.out.size
      rw [← hW, ← hg]
      clear hW hg HO3 HB3
      obtain ⟨sg, cur, hsg, hsB, hsh, hq0, hq1⟩ := owns_heap hM.own.secs (by omega)
      dsimp only at hsg hq0 hq1
      subst hsg
      obtain ⟨c, hc⟩ : ∃ c, L.secs[a]? = some c := ⟨_, List.getElem?_eq_getElem han⟩
      have hck := hM.own.kinds c (List.mem_of_getElem? hc)
      have hrow := hM.own.lay.secs
      have hrow2 : RowAt' W 11 Sec.enc sg 0 L.secs := by
        rcases hrow with h | ⟨b, o, e, h⟩
        · rw [h] at han; simp at han
        · dsimp only at e
          cases e
          exact h
      obtain ⟨m0, m1, m2, m3, m4, m5, m6, m7, m8, m9, m10⟩ := hM.box.cells
      dsimp only at m0 m1 m2 m3
      have lgW : g < W.heap.size := hM.box.1
      have lsW : sg < W.heap.size := hrow2.1
      have HM := Lib.hid hM
      have HROW := Lib.hid hrow2
      have HC := Lib.hid (⟨hc, hck⟩ : _ ∧ _)
      have hai : (a : Int) < (L.secs.length : Int) := by omega
      have hqm : q0 ≤ 9223372036854775807 := hq0
      clear hrow hrow2 hM hc hck hq0 hsB
      go_upto_block 2 with fail
      go_cut [] (fun w' => Hid (BadAt wr g w'))
      case first =>
        have FZ := Lib.hid (fun o => frozen_of_row W sg o cur _ hsh)
        have hn64 : n ≤ 1000 := by omega
        have hn0 : 1 ≤ n := by omega
        obtain ⟨kz, hkz⟩ : ∃ kz : Int, kz = (k : Int) := ⟨_, rfl⟩
        rw [← hkz]
        clear hki hkd hsh
        rcases (show k = 0 ∨ k = 1 ∨ k = 2 ∨ k = 3 ∨ k = 4 ∨ k = 5 ∨ k = 6 ∨ k = 7 ∨ k = 8 ∨ k = 9 ∨ k = 10 ∨ k = 11 by omega) with rfl | rfl | rfl | rfl | rfl | rfl | rfl | rfl | rfl | rfl | rfl | rfl
        · obtain rfl : kz = 0 := by omega
          clear hkz
          have z0 : W.cell? ⟨sg, a * 11, none⟩ = some (.int .u8 c.k) := by simpa using HROW.out.2 a c HC.out.1 0 _ rfl
          have f0 := FZ.out (a * 11)
          clear m0 m1 m2 m3 m4 m5 m6 m7 m8 m9 m10
          go_wp2_with fail
          go_meet
          exact Lib.hid (((HM.out.setS (c' := { c with k := 4 }) (o := 0) (sg := sg) rfl HC.out.1 (by omega) rfl ⟨by show (0 : Int) ≤ 4; decide, by show (4 : Int) ≤ 255; decide⟩).bad (no_secs han (bad_kind c))))
        · obtain rfl : kz = 1 := by omega
          clear hkz
          have e1 : IntKind.i64.wrap ((L.secs.length : Int) - 1) = (L.secs.length : Int) - 1 := IntWalk.i64_in _ (by omega)
          have e2 : IntKind.i64.wrap ((L.secs.length : Int) - 1 + n) = (L.secs.length : Int) - 1 + n := IntWalk.i64_in _ (by omega)
          have x0 : W.cell? ⟨w.heap.size, 0, none⟩ = some (.slice a0 L.secs.length p0) := (HXR.out.below HM.out.below).cells.1
          have lx : w.heap.size < W.heap.size := (HXR.out.below HM.out.below).1
          have z1 : W.cell? ⟨sg, a * 11 + 1, none⟩ = some (.int .i64 c.s0) := by simpa using HROW.out.2 a c HC.out.1 1 _ rfl
          have f1 := FZ.out (a * 11 + 1)
          have z2 : W.cell? ⟨sg, a * 11 + 2, none⟩ = some (.int .i64 c.p0) := by simpa using HROW.out.2 a c HC.out.1 2 _ rfl
          have f2 := FZ.out (a * 11 + 2)
          clear m0 m1 m2 m3 m4 m5 m6 m7 m8 m9 m10
          go_upto_region 13 with fail
          go_region
          go_wp2_with fail
          go_meet
          exact Lib.hid ((((HM.out.setS (c' := { c with s0 := (L.secs.length : Int) - 1 + n }) (o := 1) (sg := sg) rfl HC.out.1 (by omega) rfl HC.out.2).setS (c := { c with s0 := (L.secs.length : Int) - 1 + n }) (c' := { c with s0 := (L.secs.length : Int) - 1 + n, p0 := 0 }) (o := 2) (sg := sg) rfl (List.getElem?_set_self han) (by omega) rfl HC.out.2).bad (no_join (show a < (L.secs.set a _).length by rw [List.length_set]; exact han) (by show ((L.secs.set a _).length : Int) ≤ (L.secs.length : Int) - 1 + n; rw [List.length_set]; omega))).drew)
        · obtain rfl : kz = 2 := by omega
          clear hkz
          have z3 : W.cell? ⟨sg, a * 11 + 3, none⟩ = some (.int .i64 c.s1) := by simpa using HROW.out.2 a c HC.out.1 3 _ rfl
          have f3 := FZ.out (a * 11 + 3)
          have z4 : W.cell? ⟨sg, a * 11 + 4, none⟩ = some (.int .i64 c.p1) := by simpa using HROW.out.2 a c HC.out.1 4 _ rfl
          have f4 := FZ.out (a * 11 + 4)
          clear m0 m1 m2 m3 m4 m5 m6 m7 m8 m9 m10
          go_wp2_with fail
          go_meet
          exact Lib.hid ((((HM.out.setS (c' := { c with s1 := -1 }) (o := 3) (sg := sg) rfl HC.out.1 (by omega) rfl HC.out.2).setS (c := { c with s1 := -1 }) (c' := { c with s1 := -1, p1 := n }) (o := 4) (sg := sg) rfl (List.getElem?_set_self han) (by omega) rfl HC.out.2).bad (no_secs (show a < (L.secs.set a _).length by rw [List.length_set]; exact han) (bad_join (kPorts_two (sec_right HRL.out HC.out.1)) (by unfold mayT; simp; omega)))))
        · obtain rfl : kz = 3 := by omega
          clear hkz
          have e1 : IntKind.i64.wrap (-1 - n) = -1 - n := IntWalk.i64_in _ (by omega)
          have z3 : W.cell? ⟨sg, a * 11 + 3, none⟩ = some (.int .i64 c.s1) := by simpa using HROW.out.2 a c HC.out.1 3 _ rfl
          have f3 := FZ.out (a * 11 + 3)
          have z4 : W.cell? ⟨sg, a * 11 + 4, none⟩ = some (.int .i64 c.p1) := by simpa using HROW.out.2 a c HC.out.1 4 _ rfl
          have f4 := FZ.out (a * 11 + 4)
          clear m0 m1 m2 m3 m4 m5 m6 m7 m8 m9 m10
          go_wp2_with fail
          go_meet
          exact Lib.hid ((((HM.out.setS (c' := { c with s1 := -1 - n }) (o := 3) (sg := sg) rfl HC.out.1 (by omega) rfl HC.out.2).setS (c := { c with s1 := -1 - n }) (c' := { c with s1 := -1 - n, p1 := 0 }) (o := 4) (sg := sg) rfl (List.getElem?_set_self han) (by omega) rfl HC.out.2).bad (no_secs (show a < (L.secs.set a _).length by rw [List.length_set]; exact han) (bad_join (kPorts_two (sec_right HRL.out HC.out.1)) (by unfold mayT; simp; omega)))))
        · obtain rfl : kz = 4 := by omega
          clear hkz
          have e1 : IntKind.i64.wrap (3 + n) = 3 + n := IntWalk.i64_in _ (by omega)
          have z9 : W.cell? ⟨sg, a * 11 + 9, none⟩ = some (.int .i64 c.c0) := by simpa using HROW.out.2 a c HC.out.1 9 _ rfl
          have f9 := FZ.out (a * 11 + 9)
          clear m0 m1 m2 m3 m4 m5 m6 m7 m8 m9 m10
          go_wp2_with fail
          go_meet
          exact Lib.hid (((HM.out.setS (c' := { c with c0 := 3 + n }) (o := 9) (sg := sg) rfl HC.out.1 (by omega) rfl HC.out.2).bad (no_secs han (bad_class0 c (by omega)))))
        · obtain rfl : kz = 5 := by omega
          clear hkz
          have e1 : IntKind.i64.wrap (-n) = -n := IntWalk.i64_in _ (by omega)
          have z10 : W.cell? ⟨sg, a * 11 + 10, none⟩ = some (.int .i64 c.c1) := by simpa using HROW.out.2 a c HC.out.1 10 _ rfl
          have f10 := FZ.out (a * 11 + 10)
          clear m0 m1 m2 m3 m4 m5 m6 m7 m8 m9 m10
          go_wp2_with fail
          go_meet
          exact Lib.hid (((HM.out.setS (c' := { c with c1 := -n }) (o := 10) (sg := sg) rfl HC.out.1 (by omega) rfl HC.out.2).bad (no_secs han (bad_class1 c (by omega)))))
        · obtain rfl : kz = 6 := by omega
          clear hkz
          have e1 : IntKind.i64.wrap (1000 + n) = 1000 + n := IntWalk.i64_in _ (by omega)
          have f1 := HM.out.fz 6
          go_wp2_with fail
          go_meet
          exact Lib.hid ((HM.out.setT (x := L.t0) (y := 1000 + n) (i := 6) rfl).bad (no_times (t := 1000 + n) (by simp [setT, Lay.times]) (by omega)))
        · obtain rfl : kz = 7 := by omega
          clear hkz
          have e1 : IntKind.i64.wrap (1 - n) = 1 - n := IntWalk.i64_in _ (by omega)
          have f1 := HM.out.fz 4
          go_wp2_with fail
          go_meet
          exact Lib.hid ((HM.out.setT (x := 1 - n) (y := L.t2) (i := 4) rfl).bad (no_times (t := 1 - n) (by simp [setT, Lay.times]) (by omega)))
        · obtain rfl : kz = 8 := by omega
          clear hkz
          have e1 : IntKind.i64.wrap (3 + n) = 3 + n := IntWalk.i64_in _ (by omega)
          obtain ⟨i0, z0, hi, hz, hs1, hs2, hs3⟩ := info_Signal
          have HI := Lib.hid (⟨hi, hz, hs1, hs2, hs3⟩ : _ ∧ _ ∧ _ ∧ _ ∧ _)
          clear hi hz hs1 hs2 hs3
          go_wp2_with (at_builtin; refine Hid.out ?_)
          refine Lib.hid ?_
          have HN : Hid (MAt wr (W.alloc (.cells #[.int .i64 (a : Int), .int .i64 (3 + n)] 50)) g ⟨some ⟨sg, 0, none⟩, b1, b2, b3, q0, q1, q2, q3⟩ L es) := Lib.hid (HM.out.next bself)
          refine wpList_append_at (enc := Prt.enc) rfl _ _ _ rfl wr.heap.size 50 i0 z0 2 i0.bytes Tryd.underlying23 HI.out.1 HI.out.2.1 HI.out.2.2.1 rfl HI.out.2.2.2.1 (by decide) (.slice b1 L.sigs.length q1) L.sigs.length (L.sigs.flatMap Prt.enc) rfl HN.out.own.sigs (some ⟨W.heap.size, 0, none⟩) 1 1 [(⟨(a : Int), 3 + n⟩ : Prt)] rfl (by simp [go_sem]) (at_one rfl) (fun _ => rfl) ?_ (by have := HFW.out.2.1; unfold maxLen; omega) ?_ (HN.out.below.size) ?_
          · exact prt_one
          · have h2 := Nat.mul_le_mul (show L.sigs.length + 1 ≤ 1001 by have := HFW.out.2.1; omega) HI.out.2.2.2.2
            omega
          intro v' V hr hg
          obtain ⟨A', d', rfl⟩ := ownsV hr
          have hvx := heap_grown HN.out.own.sigs hg HN.out.bx (by decide)
          have HB := Lib.hid (HN.out.addG hg hr)
          have v1 : V.cell? ⟨g, 1, none⟩ = some (.slice b1 L.sigs.length q1) := by simp [World.cell?, hvx, Lay.cells]
          have v2 : V.frozen? ⟨g, 1, none⟩ = false := frozen_of_row _ _ _ _ _ hvx
          have v3 : g < V.heap.size := (Array.getElem?_eq_some_iff.1 hvx).1
          clear hr hg hvx m0 m1 m2 m3 m4 m5 m6 m7 m8 m9 m10
          go_wp2_with fail
          go_meet
          exact Lib.hid (HB.out.bad (no_sig (.inl (by omega))))
        · obtain rfl : kz = 9 := by omega
          clear hkz
          obtain ⟨i0, z0, hi, hz, hs1, hs2, hs3⟩ := info_Exit
          have HI := Lib.hid (⟨hi, hz, hs1, hs2, hs3⟩ : _ ∧ _ ∧ _ ∧ _ ∧ _)
          clear hi hz hs1 hs2 hs3
          go_wp2_with (at_builtin; refine Hid.out ?_)
          refine Lib.hid ?_
          have HN : Hid (MAt wr ((W.alloc (.cells #[.int .i64 (a : Int), .int .i64 0, .int .i64 0] 33)).alloc (.cells #[.int .i64 (a : Int), .int .i64 0, .slice (some ⟨W.heap.size, 0, none⟩) 1 1] 53)) g ⟨some ⟨sg, 0, none⟩, b1, b2, b3, q0, q1, q2, q3⟩ L es) := Lib.hid ((HM.out.next bself).next bself)
          have HV : Hid (((W.alloc (.cells #[.int .i64 (a : Int), .int .i64 0, .int .i64 0] 33)).alloc (.cells #[.int .i64 (a : Int), .int .i64 0, .slice (some ⟨W.heap.size, 0, none⟩) 1 1] 53)).ownsRow wr.heap.size 33 3 (.slice (some ⟨W.heap.size, 0, none⟩) 1 1) 1 [.int .i64 (a : Int), .int .i64 0, .int .i64 0]) := Lib.hid (owns_below (owns_one (cs := #[.int .i64 (a : Int), .int .i64 0, .int .i64 0]) rfl HM.out.below.size) bself)
          refine wpList_append_at (enc := Ext'.enc) rfl _ _ _ rfl wr.heap.size 53 i0 z0 3 i0.bytes Tryd.underlying24 HI.out.1 HI.out.2.1 HI.out.2.2.1 rfl HI.out.2.2.2.1 (by decide) (.slice b2 L.exits.length q2) L.exits.length (es.flatMap Ext'.enc) rfl HN.out.own.exits (some ⟨(W.alloc (.cells #[.int .i64 (a : Int), .int .i64 0, .int .i64 0] 33)).heap.size, 0, none⟩) 1 1 [((⟨(a : Int), 0, [⟨(a : Int), 0, 0⟩]⟩ : Ext'), (.slice (some ⟨W.heap.size, 0, none⟩) 1 1 : Value))] rfl (by simp [go_sem]) (at_one rfl) (fun _ => rfl) ?_ (by have := HFW.out.2.2.1; unfold maxLen; omega) ?_ (HN.out.below.size) ?_
          · intro u hu
            simp only [List.flatMap_cons, List.flatMap_nil, List.append_nil, Ext'.enc, List.mem_cons, List.not_mem_nil, or_false] at hu
            rcases hu with rfl | rfl | rfl <;> rfl
          · have h2 := Nat.mul_le_mul (show L.exits.length + 1 ≤ 1001 by have := HFW.out.2.2.1; omega) HI.out.2.2.2.2
            omega
          intro v' V hr hg
          obtain ⟨A', d', rfl⟩ := ownsV hr
          have hvx := heap_grown HN.out.own.exits hg HN.out.bx (by decide)
          have HB := Lib.hid (HN.out.addE (x := ⟨(a : Int), 0, [⟨(a : Int), 0, 0⟩]⟩) (v := .slice (some ⟨W.heap.size, 0, none⟩) 1 1) hg hr HV.out)
          have v1 : V.cell? ⟨g, 2, none⟩ = some (.slice b2 L.exits.length q2) := by simp [World.cell?, hvx, Lay.cells]
          have v2 : V.frozen? ⟨g, 2, none⟩ = false := frozen_of_row _ _ _ _ _ hvx
          have v3 : g < V.heap.size := (Array.getElem?_eq_some_iff.1 hvx).1
          clear hr hg hvx m0 m1 m2 m3 m4 m5 m6 m7 m8 m9 m10
          go_wp2_with fail
          go_meet
          exact Lib.hid (HB.out.bad no_over)
        · obtain rfl : kz = 10 := by omega
          clear hkz
          obtain ⟨i0, z0, hi, hz, hs1, hs2, hs3⟩ := info_Flank
          have HI := Lib.hid (⟨hi, hz, hs1, hs2, hs3⟩ : _ ∧ _ ∧ _ ∧ _ ∧ _)
          clear hi hz hs1 hs2 hs3
          go_wp2_with (at_builtin; refine Hid.out ?_)
          refine Lib.hid ?_
          have HN : Hid (MAt wr (W.alloc (.cells #[.int .i64 (a : Int), .int .i64 0, .int .i64 (a : Int), .int .i64 0] 55)) g ⟨some ⟨sg, 0, none⟩, b1, b2, b3, q0, q1, q2, q3⟩ L es) := Lib.hid (HM.out.next bself)
          refine wpList_append_at (enc := Flk.enc) rfl _ _ _ rfl wr.heap.size 55 i0 z0 4 i0.bytes Tryd.underlying25 HI.out.1 HI.out.2.1 HI.out.2.2.1 rfl HI.out.2.2.2.1 (by decide) (.slice b3 L.flanks.length q3) L.flanks.length (L.flanks.flatMap Flk.enc) rfl HN.out.own.flanks (some ⟨W.heap.size, 0, none⟩) 1 1 [(⟨(a : Int), 0, (a : Int), 0⟩ : Flk)] rfl (by simp [go_sem]) (at_one rfl) (fun _ => rfl) ?_ (by have := HFW.out.2.2.2.1; unfold maxLen; omega) ?_ (HN.out.below.size) ?_
          · exact flk_one
          · have h2 := Nat.mul_le_mul (show L.flanks.length + 1 ≤ 1001 by have := HFW.out.2.2.2.1; omega) HI.out.2.2.2.2
            omega
          intro v' V hr hg
          obtain ⟨A', d', rfl⟩ := ownsV hr
          have hvx := heap_grown HN.out.own.flanks hg HN.out.bx (by decide)
          have HB := Lib.hid (HN.out.addF hg hr)
          have v1 : V.cell? ⟨g, 3, none⟩ = some (.slice b3 L.flanks.length q3) := by simp [World.cell?, hvx, Lay.cells]
          have v2 : V.frozen? ⟨g, 3, none⟩ = false := frozen_of_row _ _ _ _ _ hvx
          have v3 : g < V.heap.size := (Array.getElem?_eq_some_iff.1 hvx).1
          clear hr hg hvx m0 m1 m2 m3 m4 m5 m6 m7 m8 m9 m10
          go_wp2_with fail
          go_meet
          exact Lib.hid (HB.out.bad no_flank)
        · obtain rfl : kz = 11 := by omega
          clear hkz
          obtain ⟨i0, z0, hi, hz, hs1, hs2, hs3⟩ := info_Exit
          have HI := Lib.hid (⟨hi, hz, hs1, hs2, hs3⟩ : _ ∧ _ ∧ _ ∧ _ ∧ _)
          clear hi hz hs1 hs2 hs3
          go_wp2_with (at_builtin; refine Hid.out ?_)
          refine Lib.hid ?_
          have HN : Hid (MAt wr (W.alloc (.cells #[.int .i64 (-1), .int .i64 0, .slice none 0 0] 53)) g ⟨some ⟨sg, 0, none⟩, b1, b2, b3, q0, q1, q2, q3⟩ L es) := Lib.hid (HM.out.next bself)
          have HV : Hid ((W.alloc (.cells #[.int .i64 (-1), .int .i64 0, .slice none 0 0] 53)).ownsRow wr.heap.size 33 3 (.slice none 0 0) 0 []) := Lib.hid (World.ownsRow_nil _ _ _ _)
          refine wpList_append_at (enc := Ext'.enc) rfl _ _ _ rfl wr.heap.size 53 i0 z0 3 i0.bytes Tryd.underlying24 HI.out.1 HI.out.2.1 HI.out.2.2.1 rfl HI.out.2.2.2.1 (by decide) (.slice b2 L.exits.length q2) L.exits.length (es.flatMap Ext'.enc) rfl HN.out.own.exits (some ⟨W.heap.size, 0, none⟩) 1 1 [((⟨-1, 0, []⟩ : Ext'), (.slice none 0 0 : Value))] rfl (by simp [go_sem]) (at_one rfl) (fun _ => rfl) ?_ (by have := HFW.out.2.2.1; unfold maxLen; omega) ?_ (HN.out.below.size) ?_
          · intro u hu
            simp only [List.flatMap_cons, List.flatMap_nil, List.append_nil, Ext'.enc, List.mem_cons, List.not_mem_nil, or_false] at hu
            rcases hu with rfl | rfl | rfl <;> rfl
          · have h2 := Nat.mul_le_mul (show L.exits.length + 1 ≤ 1001 by have := HFW.out.2.2.1; omega) HI.out.2.2.2.2
            omega
          intro v' V hr hg
          obtain ⟨A', d', rfl⟩ := ownsV hr
          have hvx := heap_grown HN.out.own.exits hg HN.out.bx (by decide)
          have HB := Lib.hid (HN.out.addE (x := ⟨-1, 0, []⟩) (v := .slice none 0 0) hg hr HV.out)
          have v1 : V.cell? ⟨g, 2, none⟩ = some (.slice b2 L.exits.length q2) := by simp [World.cell?, hvx, Lay.cells]
          have v2 : V.frozen? ⟨g, 2, none⟩ = false := frozen_of_row _ _ _ _ _ hvx
          have v3 : g < V.heap.size := (Array.getElem?_eq_some_iff.1 hvx).1
          clear hr hg hvx m0 m1 m2 m3 m4 m5 m6 m7 m8 m9 m10
          go_wp2_with fail
          go_meet
          exact Lib.hid (HB.out.bad no_exit)
      case rest =>
        obtain ⟨M, q, hx, hl, hr, hb⟩ := hcut.out
        obtain ⟨A0, A1, A2, A3, d0, d1, d2, d3⟩ := q
        have hsm := not_same HRL.out hr
        obtain ⟨t0, t1, t2, t3, t4, t5, t6, t7, t8, t9, t10⟩ := hx.cells
        dsimp only at t0 t1 t2 t3
        have lgc : g < wc.heap.size := hx.1
        have HBC := Lib.hid (bchain HBR.out hb)
        have HXC := Lib.hid (HXR.out.below hb)
        have HMX := Lib.hid hx
        have HML := Lib.hid hl
        have HSF := Lib.hid (⟨hr, hsm⟩ : _ ∧ _)
        have lwg : w.heap.size < wc.heap.size := HXC.out.1
        clear hx hl hr hb hsm hcut HM HROW HC HBR HXR m0 m1 m2 m3 m4 m5 m6 m7 m8 m9 m10 hsh
        go_wp2_with fail
        (with_reducible refine (HLR.out M ⟨A0, A1, A2, A3, d0, d1, d2, d3⟩ _ HBC.out HML.out).mono ?_)
        rintro e w5 ⟨rfl, b5⟩
        rw [HSF.out.1]
        have HB5 := Lib.hid (bchain HBC.out b5)
        have HX5 := Lib.hid (HXC.out.below b5)
        have HML5 := Lib.hid (HML.out.below b5)
        obtain ⟨c0, c1, c2, c3, c4, c5, c6, c7, c8, c9, c10⟩ := HX5.out.cells
        dsimp only at c0 c1 c2 c3
        have lg := HX5.out.1
        obtain ⟨s0, s1, s2, s3, s4, s5, s6, s7, s8, s9, s10⟩ := (HMX.out.below b5).cells
        dsimp only at s0 s1 s2 s3
        have lg5 := (HMX.out.below b5).1
        clear t0 t1 t2 t3 t4 t5 t6 t7 t8 t9 t10 b5
        go_wp2_with fail
        (with_reducible refine (HSM.out M ⟨A0, A1, A2, A3, d0, d1, d2, d3⟩ _ HB5.out HML5.out).mono ?_)
        rintro e w6 ⟨rfl, b6⟩
        rw [HSF.out.2]
        have HB6 := Lib.hid (bchain HB5.out b6)
        have HX6 := Lib.hid (HX5.out.below b6)
        clear c0 c1 c2 c3 c4 c5 c6 c7 c8 c9 c10 lg s0 s1 s2 s3 s4 s5 s6 s7 s8 s9 s10 lg5 b6
        go_wp2_with fail
        go_round
        case measure => simp [intOf]; omega
        case rel => exact ⟨k + 1, by omega, by go_num, HB6, HX6⟩
    · obtain rfl : k = 12 := by omega
      have HLR2 := Lib.hid (HLR.out L ⟨a0, a1, a2, a3, p0, p1, p2, p3⟩ _ HBR.out (HL.out.below HBR.out))
      go_wp2_with fail
      (with_reducible refine HLR2.out.mono ?_)
      rintro e w5 ⟨rfl, b5⟩
      rw [HRL.out]
      have HB5 := Lib.hid (bchain HBR.out b5)
      clear b5 c0 c1 c2 c3 c4 c5 c6 c7 c8 c9 c10 lg
      go_wp2_with fail
      (with_reducible refine (HW.out _ HB5.out).mono ?_)
      rintro e w9 ⟨rfl, b9⟩
      have HB9 := Lib.hid (bchain (HB5.out) b9)
      clear b9
      go_wp2
      go_ret
      exact ⟨rfl, HB9.out⟩
end Go.Proofs.YtkphihbimdffjaaDoor
