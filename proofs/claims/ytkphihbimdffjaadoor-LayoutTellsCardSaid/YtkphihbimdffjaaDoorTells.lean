/-
  The walk of LayoutTells.
-/
import Derived.Test.YtkphihbimdffjaaDoorWakes
import Derived.Test.YtkphihbimdffjaaDoorGreat
import Derived.Test.YtkphihbimdffjaaDoorRef6e
import Derived.Test.YtkphihbimdffjaaDoorRef6f
import Derived.Test.YtkphihbimdffjaaDoorRel
namespace Go.Proofs.YtkphihbimdffjaaDoor
open Go.RowKit Go.Shelf

attribute [local go_sem ↓ high] eqQ_sec
theorem fewG_few {L : Lay} (h : FewG L) : Few L := ⟨by have := h.1; omega, by have := h.2.1; omega, by have := h.2.2.1; omega, by have := h.2.2.2.1; omega, fun x hx => by have := h.2.2.2.2 x hx; omega⟩

set_option maxRecDepth 100000 in
set_option maxHeartbeats 16000000 in
theorem layoutTells_walk (L : Lay) (p : Where) (M : Lay) (q : Where) (a b : Int) (s i o : Int) (w : World) (hL : LayAt w p L) (hM : LayAt w q M) (K : Kinds w) :
    Calls Tryd.prog 3 #[L.val p, M.val q, .agg #[.int .i64 a, .int .i64 b], .agg #[.int .i64 s, .int .i64 i, .int .i64 o]] w fun e w' => e = .returned (.bool true) ∧ Below w.heap.size w w' := by
  have hG := fun w1 (b : Below w.heap.size w w1) => rGreat_of L p w1 (hL.below b)
  have hG2 := fun w1 (b : Below w.heap.size w w1) => rGreat_of M q w1 (hM.below b)
  have hW := fun w1 (b : Below w.heap.size w w1) => wakes_any w1 (K.below b)
  have h10 := fun w1 (h : Below w.heap.size w w1) => at_any L p a b w1 (hL.below h) (K.below h)
  have h11 := fun w1 (h : Below w.heap.size w w1) => rAt_any L p a b w1 (hL.below h)
  have h12 := fun w1 (h : Below w.heap.size w w1) => step_any L p s i o w1 (hL.below h) (K.below h)
  have h13 := fun w1 (h : Below w.heap.size w w1) => rStep_any L p s i o w1 (hL.below h)
  have h14 := fun w1 (h : Below w.heap.size w w1) => signal_any L p a b w1 (hL.below h)
  have h15 := fun w1 (h : Below w.heap.size w w1) => rSignal_any L p a b w1 (hL.below h)
  have h16 := fun w1 (h : Below w.heap.size w w1) => exit_any L p a b w1 (hL.below h)
  have h17 := fun w1 (h : Below w.heap.size w w1) => rExit_any L p a b w1 (hL.below h)
  have h18 := fun w1 (h : Below w.heap.size w w1) => rightLay_any L p w1 (hL.below h) (K.below h)
  have h19 := fun w1 (h : Below w.heap.size w w1) => rRight_any L p w1 (hL.below h)
  have h20 := fun w1 (h : Below w.heap.size w w1) => sameLay_any L M p q w1 (hL.below h) (hM.below h)
  have h21 := fun w1 (h : Below w.heap.size w w1) => rSame_any L M p q w1 (hL.below h) (hM.below h)
  have h22 := fun w1 (h : Below w.heap.size w w1) (hf : FewG L) => ownLay_any L p w1 (hL.below h) (fewG_few hf)
  have h23 := fun (p' : Where) w1 (h : Below w.heap.size w w1) (hp : LayAt w1 p' L) => rSame_any L L p' p w1 hp (hL.below h)
  have hself : sameL L L = true := (same_iff L L).2 ⟨rfl, rfl, rfl, rfl, rfl⟩
  rw [hself] at h23
  unfold atV at h10 h11
  generalize (atO L a b).getD zeroSec = x at h10 h11
  generalize (atO L a b).isSome = xb at h10 h11
  generalize stepN L s i o = vn at h12 h13
  generalize stepB L s i o = vb at h12 h13
  generalize sigIx L a b = si at h14 h15
  generalize exIx L a b = ei at h16 h17
  generalize rightL L = rl at h18 h19
  generalize sameL L M = sl at h20 h21
  unfold Sec.enc at h10 h11
  have HG := Lib.hid hG
  have HG2 := Lib.hid hG2
  have HW := Lib.hid hW
  have H10 := Lib.hid h10
  have H11 := Lib.hid h11
  have H12 := Lib.hid h12
  have H13 := Lib.hid h13
  have H14 := Lib.hid h14
  have H15 := Lib.hid h15
  have H16 := Lib.hid h16
  have H17 := Lib.hid h17
  have H18 := Lib.hid h18
  have H19 := Lib.hid h19
  have H20 := Lib.hid h20
  have H21 := Lib.hid h21
  have H22 := Lib.hid h22
  have H23 := Lib.hid h23
  have hX := ((((BoxL.make (W := w) (L := L) (p := p) (n := w.heap.size) 29 rfl).below (bself (o := .cells (M.cells q).toArray 29))).below (bself (o := .cells #[.int .i64 a, .int .i64 b] 31))).below (bself (o := .cells #[.int .i64 s, .int .i64 i, .int .i64 o] 33)))
  have hZ := (((BoxL.make (W := w.alloc (.cells (L.cells p).toArray 29)) (L := M) (p := q) (n := w.heap.size + 1) 29 (by simp)).below (bself (o := .cells #[.int .i64 a, .int .i64 b] 31))).below (bself (o := .cells #[.int .i64 s, .int .i64 i, .int .i64 o] 33)))
  have HX := Lib.hid hX
  have HZ := Lib.hid hZ
  have HL := Lib.hid hL
  clear hG hG2 hW h10 h11 h12 h13 h14 h15 h16 h17 h18 h19 h20 h21 h22 h23 hself hX hZ hL hM K
  unfold Lay.val at *
  go_enter Tryd.func3, Tryd.ntmps3
  go_wp2_with fail
  (with_reducible refine (HG.out _ (bchain (bchain (bchain bself bself) bself) bself)).mono ?_)
  rintro e w1 ⟨g, rfl, hfew, b1⟩
  have HFW := Lib.hid hfew
  obtain ⟨c1, f1, l1⟩ := bcell b1
  have y10 : w.heap.size < w1.heap.size := l1 _ (by simp <;> omega)
  have y11 : w.heap.size + 1 < w1.heap.size := l1 _ (by simp <;> omega)
  have y12 : w.heap.size + 1 + 1 < w1.heap.size := l1 _ (by simp <;> omega)
  have y13 : w.heap.size + 1 + 1 + 1 < w1.heap.size := l1 _ (by simp)
  have B := bchain (bchain (bchain (bchain (bself (w := w) (o := _)) bself) bself) bself) b1
  have HX1 := Lib.hid (HX.out.below b1)
  have HZ1 := Lib.hid (HZ.out.below b1)
  clear b1 l1 f1 hfew HX HZ
  cases g
  case true =>
    go_wp2_with fail
    (with_reducible refine (HW.out _ B).mono ?_)
    rintro e w2 ⟨rfl, b2⟩
    go_wp2
    go_ret
    exact ⟨rfl, bchain B b2⟩
  go_wp2_with fail
  (with_reducible refine (HG2.out _ B).mono ?_)
  rintro e w2 ⟨g, rfl, _, b2⟩
  obtain ⟨c2, f2, l2⟩ := bcell b2
  have y20 : w.heap.size < w2.heap.size := l2 _ y10
  have y21 : w.heap.size + 1 < w2.heap.size := l2 _ y11
  have y22 : w.heap.size + 1 + 1 < w2.heap.size := l2 _ y12
  have y23 : w.heap.size + 1 + 1 + 1 < w2.heap.size := l2 _ y13
  replace B := bchain B b2
  cases g
  case true =>
    go_wp2_with fail
    (with_reducible refine (HW.out _ B).mono ?_)
    rintro e w3 ⟨rfl, b3⟩
    go_wp2
    go_ret
    exact ⟨rfl, bchain B b3⟩
  go_wp2_with fail
  (with_reducible refine (H10.out _ B).mono ?_)
  rintro e w3 ⟨rfl, b3⟩
  obtain ⟨c3, f3, l3⟩ := bcell b3
  have y30 : w.heap.size < w3.heap.size := l3 _ y20
  have y31 : w.heap.size + 1 < w3.heap.size := l3 _ y21
  have y32 : w.heap.size + 1 + 1 < w3.heap.size := l3 _ y22
  have y33 : w.heap.size + 1 + 1 + 1 < w3.heap.size := l3 _ y23
  replace B := bchain B b3
  go_wp2_with fail
  (with_reducible refine (H11.out _ (bchain B bself)).mono ?_)
  rintro e w4 ⟨rfl, b4⟩
  obtain ⟨c4, f4, l4⟩ := bcell b4
  have y40 : w.heap.size < w4.heap.size := l4 _ (by simp; omega)
  have y41 : w.heap.size + 1 < w4.heap.size := l4 _ (by simp; omega)
  have y42 : w.heap.size + 1 + 1 < w4.heap.size := l4 _ (by simp; omega)
  have y43 : w.heap.size + 1 + 1 + 1 < w4.heap.size := l4 _ (by simp; omega)
  have z4g : w3.heap.size < w4.heap.size := l4 _ (by simp)
  replace B := bchain (bchain B bself) b4
  go_wp2_with fail
  (with_reducible refine (H12.out _ (bchain B bself)).mono ?_)
  rintro e w5 ⟨rfl, b5⟩
  obtain ⟨c5, f5, l5⟩ := bcell b5
  have y50 : w.heap.size < w5.heap.size := l5 _ (by simp; omega)
  have y51 : w.heap.size + 1 < w5.heap.size := l5 _ (by simp; omega)
  have y52 : w.heap.size + 1 + 1 < w5.heap.size := l5 _ (by simp; omega)
  have y53 : w.heap.size + 1 + 1 + 1 < w5.heap.size := l5 _ (by simp; omega)
  have z5g : w3.heap.size < w5.heap.size := l5 _ (by simp; omega)
  have z5h : w4.heap.size < w5.heap.size := l5 _ (by simp)
  replace B := bchain (bchain B bself) b5
  go_wp2_with fail
  (with_reducible refine (H13.out _ B).mono ?_)
  rintro e w6 ⟨rfl, b6⟩
  obtain ⟨c6, f6, l6⟩ := bcell b6
  have y60 : w.heap.size < w6.heap.size := l6 _ y50
  have y61 : w.heap.size + 1 < w6.heap.size := l6 _ y51
  have y62 : w.heap.size + 1 + 1 < w6.heap.size := l6 _ y52
  have y63 : w.heap.size + 1 + 1 + 1 < w6.heap.size := l6 _ y53
  have z6g : w3.heap.size < w6.heap.size := l6 _ z5g
  have z6h : w4.heap.size < w6.heap.size := l6 _ z5h
  replace B := bchain B b6
  go_upto_region 7 with fail
  have b26 : Below w2.heap.size w2 w6 := bchain (bchain (bchain (bchain (bchain b3 bself) b4) bself) b5) b6
  have b16 : Below w1.heap.size w1 w6 := bchain b2 b26
  have S1 : BoxS w6 w3.heap.size x := ((BoxS.make w3 x).below b4).below (bchain (bchain bself b5) b6)
  have S2 : BoxS w6 w4.heap.size x := (BoxS.make w4 x).below (bchain b5 b6)
  have X6 := HX1.out.below b16
  have Z6 := HZ1.out.below b16
  have p0 : w6.cell? ⟨w.heap.size + 1 + 1, 0, none⟩ = some (.int .i64 a) := by rw [b16.cell (p := ⟨w.heap.size + 1 + 1, 0, none⟩) y12, c1 _ _ (by simp <;> omega)]; simp [go_sem]
  have p1 : w6.cell? ⟨w.heap.size + 1 + 1, 1, none⟩ = some (.int .i64 b) := by rw [b16.cell (p := ⟨w.heap.size + 1 + 1, 1, none⟩) y12, c1 _ _ (by simp <;> omega)]; simp [go_sem]
  obtain ⟨g3, hg3⟩ : ∃ g3, g3 = w3.heap.size := ⟨_, rfl⟩
  obtain ⟨g4, hg4⟩ : ∃ g4, g4 = w4.heap.size := ⟨_, rfl⟩
  rw [← hg3] at S1 ⊢
  rw [← hg4] at S2 ⊢
  clear hg3 hg4
  obtain ⟨t0, t1, t2, t3, t4, t5, t6, t7, t8, t9, t10⟩ := S1.cells
  obtain ⟨u0, u1, u2, u3, u4, u5, u6, u7, u8, u9, u10⟩ := S2.cells
  obtain ⟨r0, r1, r2, r3, r4, r5, r6, r7, r8, r9, r10⟩ := X6.cells
  have lS1 := S1.1
  have lS2 := S2.1
  have HX6 := Lib.hid X6
  have HZ6 := Lib.hid Z6
  have BB := Lib.hid B
  clear c1 c2 c3 c4 c5 c6 f2 f3 f4 f5 f6 l2 l3 l4 l5 l6 b2 b3 b4 b5 b6 b26 b16 S1 S2 X6 Z6 B HX1 HZ1
  refine wp_region_ext (by kernel_rfl) (by kernel_rfl) fun hx => ?_
  repeat (go_big_quiet_step (first
    | (go_at_call 14; exact Calls.ext (H14.out _ (bchain BB.out (Ext.below _))))
    | (go_at_call 15; exact Calls.ext (H15.out _ (bchain BB.out (Ext.below _))))
    | (go_at_call 16; exact Calls.ext (H16.out _ (bchain BB.out (Ext.below _))))
    | (go_at_call 17; exact Calls.ext (H17.out _ (bchain BB.out (Ext.below _))))))
  refine wpQuiet_nil ?_
  intro U b7
  have B1 := HX6.out.below b7
  have B2 := HZ6.out.below b7
  have BU := Lib.hid (bchain BB.out b7)
  have hfw : FewG L := by simpa using HFW.out
  clear b7 t0 t1 t2 t3 t4 t5 t6 t7 t8 t9 t10 u0 u1 u2 u3 u4 u5 u6 u7 u8 u9 u10 r0 r1 r2 r3 r4 r5 r6 r7 r8 r9 r10 p0 p1
  go_upto_region 9 with fail
  refine wp_region_rel_below [([(4, none)], none), ([(84, some 0)], none), ([(4, none)], none), ([(86, some 0)], none), ([(85, some 2), (87, some 0)], none), ([(88, some 0)], none), ([(4, none), (89, some 0)], some (89, true)), ([(5, none), (89, some 1)], some (89, true)), ([(90, some 1), (91, some 0), (89, some 2)], some (89, true)), ([(4, none), (89, some 3)], some (89, true)), ([(5, none), (89, some 4)], some (89, true)), ([(93, some 1), (94, some 0), (89, some 5)], some (89, true)), ([(92, some 3), (95, some 0), (89, some 6)], some (89, true)), ([(89, some 7), (96, some 0)], none), ([(97, some 0)], none), ([(4, none), (98, some 0)], some (98, true)), ([(99, some 0), (98, some 1)], some (98, true)), ([(4, none), (98, some 2)], some (98, true)), ([(100, some 1), (101, some 0), (98, some 3)], some (98, true)), ([(98, some 4), (102, some 0)], none), ([(103, some 0)], none), ([(104, some 0)], some (104, true)), ([(104, some 1), (105, some 0)], none), ([(106, some 0)], none)] [(0, 8)] (by kernel_rfl) (by kernel_rfl) ?_
  refine ob_det (c := L.val p) ?_ ?_
  · intro ρ W hk hC
    simp only [seen, obOp]
    rintro h4
    replace h4 : ρ (.tmp 4) = .pointer (some ⟨w.heap.size, 0, none⟩) := h4.trans rfl
    exact rel_value (runLoad (h4) (B1.below hC)) hC
  refine ob_det (c := .bool rl) ?_ ?_
  · intro ρ W hk hC
    simp only [seen, obOp, List.getD_cons_zero]
    rintro h84
    exact rel_call (f := 18) (args := #[L.val p]) (by simp [go_sem, h84, hk.func]) hC (H18.out W (bchain BU.out hC))
  refine ob_det (c := L.val p) ?_ ?_
  · intro ρ W hk hC
    simp only [seen, obOp]
    rintro h4
    replace h4 : ρ (.tmp 4) = .pointer (some ⟨w.heap.size, 0, none⟩) := h4.trans rfl
    exact rel_value (runLoad (h4) (B1.below hC)) hC
  refine ob_det (c := .bool rl) ?_ ?_
  · intro ρ W hk hC
    simp only [seen, obOp, List.getD_cons_zero]
    rintro h86
    exact rel_call (f := 19) (args := #[L.val p]) (by simp [go_sem, h86, hk.func]) hC (H19.out W (bchain BU.out hC))
  refine ob_det (c := .bool true) ?_ ?_
  · intro ρ W hk hC
    simp only [seen, obOp, List.getD_cons_zero, List.getD_cons_succ]
    rintro h85 h87
    exact rel_value (by simp [go_sem, h85, h87]) hC
  refine ob_det (c := .bool true) ?_ ?_
  · intro ρ W hk hC
    simp only [seen, obOp, List.getD_cons_zero]
    rintro h88
    exact rel_value (by simp [go_sem, h88]) hC
  refine ob_det (c := L.val p) ?_ ?_
  · intro ρ W hk hC
    simp only [seen, obOp, List.getD_cons_zero]
    rintro h4 h89
    replace h4 : ρ (.tmp 4) = .pointer (some ⟨w.heap.size, 0, none⟩) := h4.trans rfl
    refine ⟨fun _ => ?_, fun hn => absurd h89 hn⟩
    exact rel_value (runLoad (h4) (B1.below hC)) hC
  refine ob_det (c := M.val q) ?_ ?_
  · intro ρ W hk hC
    simp only [seen, obOp, List.getD_cons_zero, List.getD_cons_succ]
    rintro h5 h89
    replace h5 : ρ (.tmp 5) = .pointer (some ⟨w.heap.size + 1, 0, none⟩) := h5.trans rfl
    refine ⟨fun _ => ?_, fun hn => absurd h89 hn⟩
    exact rel_value (runLoad (h5) (B2.below hC)) hC
  refine ob_det (c := .bool sl) ?_ ?_
  · intro ρ W hk hC
    simp only [seen, obOp, List.getD_cons_zero, List.getD_cons_succ]
    rintro h90 h91 h89
    refine ⟨fun _ => ?_, fun hn => absurd h89 hn⟩
    exact rel_call (f := 20) (args := #[L.val p, M.val q]) (by simp [go_sem, h90, h91, hk.func]) hC (H20.out W (bchain BU.out hC))
  refine ob_det (c := L.val p) ?_ ?_
  · intro ρ W hk hC
    simp only [seen, obOp, List.getD_cons_zero, List.getD_cons_succ]
    rintro h4 h89
    replace h4 : ρ (.tmp 4) = .pointer (some ⟨w.heap.size, 0, none⟩) := h4.trans rfl
    refine ⟨fun _ => ?_, fun hn => absurd h89 hn⟩
    exact rel_value (runLoad (h4) (B1.below hC)) hC
  refine ob_det (c := M.val q) ?_ ?_
  · intro ρ W hk hC
    simp only [seen, obOp, List.getD_cons_zero, List.getD_cons_succ]
    rintro h5 h89
    replace h5 : ρ (.tmp 5) = .pointer (some ⟨w.heap.size + 1, 0, none⟩) := h5.trans rfl
    refine ⟨fun _ => ?_, fun hn => absurd h89 hn⟩
    exact rel_value (runLoad (h5) (B2.below hC)) hC
  refine ob_det (c := .bool sl) ?_ ?_
  · intro ρ W hk hC
    simp only [seen, obOp, List.getD_cons_zero, List.getD_cons_succ]
    rintro h93 h94 h89
    refine ⟨fun _ => ?_, fun hn => absurd h89 hn⟩
    exact rel_call (f := 21) (args := #[L.val p, M.val q]) (by simp [go_sem, h93, h94, hk.func]) hC (H21.out W (bchain BU.out hC))
  refine ob_det (c := .bool true) ?_ ?_
  · intro ρ W hk hC
    simp only [seen, obOp, List.getD_cons_zero, List.getD_cons_succ]
    rintro h92 h95 h89
    refine ⟨fun _ => ?_, fun hn => absurd h89 hn⟩
    exact rel_value (by simp [go_sem, h92, h95]) hC
  refine ob_det (c := .bool true) ?_ ?_
  · intro ρ W hk hC
    simp only [seen, obOp, List.getD_cons_zero, List.getD_cons_succ]
    rintro h89 h96
    exact rel_value (by simp [go_sem, h89, h96, hk.const]) hC
  refine ob_det (c := .bool true) ?_ ?_
  · intro ρ W hk hC
    simp only [seen, obOp, List.getD_cons_zero]
    rintro h97
    exact rel_value (by simp [go_sem, h97]) hC
  refine ob_det (c := L.val p) ?_ ?_
  · intro ρ W hk hC
    simp only [seen, obOp, List.getD_cons_zero]
    rintro h4 h98
    replace h4 : ρ (.tmp 4) = .pointer (some ⟨w.heap.size, 0, none⟩) := h4.trans rfl
    refine ⟨fun _ => ?_, fun hn => absurd h98 hn⟩
    exact rel_value (runLoad (h4) (B1.below hC)) hC
  refine ⟨fun v w' => ∃ p', v = L.val p' ∧ LayAt w' p' L, fun v w w' ⟨p', e, h⟩ hb => ⟨p', e, h.below hb⟩, ?_, ?_⟩
  · intro ρ W hk hC
    simp only [seen, obOp, List.getD_cons_zero, List.getD_cons_succ]
    rintro h99 h98
    refine ⟨fun _ => ?_, fun hn => absurd h98 hn⟩
    exact rel_enter (f := 22) (args := #[L.val p]) (by simp [go_sem, h99, hk.func])
      ((H22.out W (bchain BU.out hC) hfw).mono fun e w' ⟨p', r1, r2, r3⟩ => ⟨_, r1, ClB.step hC r3, r3, p', rfl, r2⟩)
  refine ob_det (c := L.val p) ?_ ?_
  · intro ρ W hk hC
    simp only [seen, obOp, List.getD_cons_zero, List.getD_cons_succ]
    rintro h4 h98
    replace h4 : ρ (.tmp 4) = .pointer (some ⟨w.heap.size, 0, none⟩) := h4.trans rfl
    refine ⟨fun _ => ?_, fun hn => absurd h98 hn⟩
    exact rel_value (runLoad (h4) (B1.below hC)) hC
  refine ob_det (c := .bool true) ?_ ?_
  · intro ρ W hk hC
    simp only [seen, obOp, List.getD_cons_zero, List.getD_cons_succ]
    rintro ⟨p', h100, hp⟩ h101 h98
    refine ⟨fun _ => ?_, fun hn => absurd h98 hn⟩
    exact rel_call (f := 21) (args := #[L.val p', L.val p]) (by simp [go_sem, h100, h101, hk.func]) hC (H23.out p' W (bchain BU.out hC) hp)
  refine ob_det (c := .bool true) ?_ ?_
  · intro ρ W hk hC
    simp only [seen, obOp, List.getD_cons_zero, List.getD_cons_succ]
    rintro h98 h102
    exact rel_value (by simp [go_sem, h98, h102, hk.const]) hC
  refine ob_det (c := .bool true) ?_ ?_
  · intro ρ W hk hC
    simp only [seen, obOp, List.getD_cons_zero]
    rintro h103
    exact rel_value (by simp [go_sem, h103]) hC
  refine ob_det (c := .bool true) ?_ ?_
  · intro ρ W hk hC
    simp only [seen, obOp, List.getD_cons_zero]
    rintro h104
    refine ⟨fun _ => ?_, fun hn => absurd h104 hn⟩
    exact rel_call (f := 9) (args := #[]) (by simp [go_sem, hk.func]) hC (HW.out W (bchain BU.out hC))
  refine ob_det (c := .bool true) ?_ ?_
  · intro ρ W hk hC
    simp only [seen, obOp, List.getD_cons_zero, List.getD_cons_succ]
    rintro h104 h105
    exact rel_value (by simp [go_sem, h104, h105, hk.const]) hC
  refine ob_det (c := .bool true) ?_ ?_
  · intro ρ W hk hC
    simp only [seen, obOp, List.getD_cons_zero]
    rintro h106
    exact rel_value (by simp [go_sem, h106]) hC
  intro vs W9 hC9
  simp only [endSeen, List.getD_cons_zero]
  intro h0
  simp only [writeAll, List.setIfInBounds_toArray, List.set_cons_zero, List.set_cons_succ, h0]
  go_wp2
  go_ret
  exact ⟨rfl, bchain BU.out hC9⟩
end Go.Proofs.YtkphihbimdffjaaDoor
