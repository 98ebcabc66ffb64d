/-
  The walk of PlanApart.
-/
import Derived.Test.YtpnnbihofoomeaaDoorM8

namespace Go.Proofs.YtpnnbihofoomeaaDoor
open Go.RowKit Go.Shelf
attribute [local go_sem] Oper.semAt_some

theorem LayAt.setT {W : World} {p : Where} {L : Lay} (h : LayAt W p L) (t : Int) : LayAt W p (Go.Proofs.YtpnnbihofoomeaaDoor.setT L t) := ⟨h.secs, h.sigs, h.exits, h.flanks, h.l0, h.l1, h.l2, h.l3, h.kinds⟩
theorem right_few {L : Lay} (h : rightL L = true) : Few L := by
  obtain ⟨⟨l0, l1, l2, l3⟩, _, _, _, _, _, _, ho⟩ := (right_iff L).1 h
  refine ⟨by omega, by omega, by omega, by omega, fun x hx => ?_⟩
  have := ho x hx
  unfold overT at this
  simp only [Bool.and_eq_true, decide_eq_true_eq] at this
  omega

set_option maxRecDepth 100000 in
set_option maxHeartbeats 32000000 in
theorem planApart_walk (L : Lay) (P : Where) (M : Lay) (Q : Where) (t : Int) (w : World) (hL : LayAt w P L) (hM : LayAt w Q M) (K : Kinds w) :
    Calls Tryd.prog 6 #[L.val P, M.val Q, .int .i64 t] w fun e w' => e = .returned (.bool true) ∧ Below w.heap.size w w' := by
  have HGL := Lib.hid (fun w1 (b : Below w.heap.size w w1) => rGreat_of L P w1 (hL.below b))
  have HGM := Lib.hid (fun w1 (b : Below w.heap.size w w1) => rGreat_of M Q w1 (hM.below b))
  have HPL := Lib.hid (fun w1 (b : Below w.heap.size w w1) => put_any L P w1 (hL.below b) (K.below b))
  have HPM := Lib.hid (fun w1 (b : Below w.heap.size w w1) => put_any M Q w1 (hM.below b) (K.below b))
  have HRL := Lib.hid (fun w1 (b : Below w.heap.size w w1) => rRight_any L P w1 (hL.below b))
  have HRM := Lib.hid (fun w1 (b : Below w.heap.size w w1) => rRight_any M Q w1 (hM.below b))
  have HSM := Lib.hid (fun w1 (b : Below w.heap.size w w1) => rSame_any L M P Q w1 (hL.below b) (hM.below b))
  have HOW := Lib.hid (fun w1 (b : Below w.heap.size w w1) (hf : Few L) => rOwn_any L P w1 (hL.below b) hf)
  have HW := Lib.hid (fun w1 (b : Below w.heap.size w w1) => wakes8_any w1 (K.below b))
  have HX := Lib.hid (⟨bchain bself bself, (BoxL.make (W := w) (L := L) (p := P) (n := w.heap.size) 29 rfl).below (bself (o := .cells (M.cells Q).toArray 29)), BoxL.make (W := w.alloc (.cells (L.cells P).toArray 29)) (L := M) (p := Q) (n := w.heap.size + 1) 29 (by simp)⟩ : Below w.heap.size w ((w.alloc (.cells (L.cells P).toArray 29)).alloc (.cells (M.cells Q).toArray 29)) ∧ _ ∧ _)
  have HK := Lib.hid (fun W (h : Below w.heap.size w W) => K.below h)
  clear hL hM K
  obtain ⟨a0, a1, a2, a3, p0, p1, p2, p3⟩ := P
  obtain ⟨e0, e1, e2, e3, q0, q1, q2, q3⟩ := Q
  unfold Lay.val at *
  unfold Lay.cells at HX
  dsimp only at HX
  obtain ⟨W0, hW0⟩ : ∃ W0, W0 = (w.alloc (.cells #[.slice a0 L.secs.length p0, .slice a1 L.sigs.length p1, .slice a2 L.exits.length p2, .slice a3 L.flanks.length p3, .int .i64 L.t0, .int .i64 L.t1, .int .i64 L.t2, .int .i64 L.t3, .int .i64 L.t4, .int .i64 L.t5, .int .i64 L.t6] 29)).alloc (.cells #[.slice e0 M.secs.length q0, .slice e1 M.sigs.length q1, .slice e2 M.exits.length q2, .slice e3 M.flanks.length q3, .int .i64 M.t0, .int .i64 M.t1, .int .i64 M.t2, .int .i64 M.t3, .int .i64 M.t4, .int .i64 M.t5, .int .i64 M.t6] 29) := ⟨_, rfl⟩
  rw [← hW0] at HX
  go_enter Tryd.func6, Tryd.ntmps6
  go_wp2_with fail
  rw [← hW0]
  clear hW0
  (with_reducible refine (HGL.out _ HX.out.1).mono ?_)
  rintro e w1 ⟨b, rfl, hfew, b1⟩
  have H1 := Lib.hid (⟨bchain HX.out.1 b1, HX.out.2.1.below b1, HX.out.2.2.below b1⟩ : Below w.heap.size w w1 ∧ _ ∧ _)
  clear hfew b1 HX HGL
  obtain ⟨x0, x1, x2, x3, x4, x5, x6, x7, x8, x9, x10⟩ := H1.out.2.1.cells
  obtain ⟨y0, y1, y2, y3, y4, y5, y6, y7, y8, y9, y10⟩ := H1.out.2.2.cells
  dsimp only at x0 x1 x2 x3 y0 y1 y2 y3
  have xl := H1.out.2.1.1
  have yl := H1.out.2.2.1
  cases b with
  | true =>
    go_wp2_with fail
    (with_reducible refine (HW.out _ H1.out.1).mono ?_)
    rintro e w9 ⟨rfl, b9⟩
    have HB9 := Lib.hid (bchain (H1.out.1) b9)
    clear b9
    go_wp2
    go_ret
    exact ⟨rfl, HB9.out⟩
  | false =>
    go_wp2_with fail
    (with_reducible refine (HGM.out _ H1.out.1).mono ?_)
    rintro e w2 ⟨b, rfl, hfew, b2⟩
    have H2 := Lib.hid (⟨bchain H1.out.1 b2, H1.out.2.1.below b2, H1.out.2.2.below b2⟩ : Below w.heap.size w w2 ∧ _ ∧ _)
    clear hfew b2 HGM H1 x0 x1 x2 x3 x4 x5 x6 x7 x8 x9 x10 xl y0 y1 y2 y3 y4 y5 y6 y7 y8 y9 y10 yl
    obtain ⟨x0, x1, x2, x3, x4, x5, x6, x7, x8, x9, x10⟩ := H2.out.2.1.cells
    obtain ⟨y0, y1, y2, y3, y4, y5, y6, y7, y8, y9, y10⟩ := H2.out.2.2.cells
    dsimp only at x0 x1 x2 x3 y0 y1 y2 y3
    have xl := H2.out.2.1.1
    have yl := H2.out.2.2.1
    cases b with
    | true =>
      go_wp2_with fail
      (with_reducible refine (HW.out _ H2.out.1).mono ?_)
      rintro e w9 ⟨rfl, b9⟩
      have HB9 := Lib.hid (bchain (H2.out.1) b9)
      clear b9
      go_wp2
      go_ret
      exact ⟨rfl, HB9.out⟩
    | false =>
    go_wp2_with fail
    (with_reducible refine (HRL.out _ H2.out.1).mono ?_)
    rintro e w3 ⟨rfl, b3⟩
    have H3 := Lib.hid (⟨bchain H2.out.1 b3, H2.out.2.1.below b3, H2.out.2.2.below b3⟩ : Below w.heap.size w w3 ∧ _ ∧ _)
    clear b3 HRL H2 x0 x1 x2 x3 x4 x5 x6 x7 x8 x9 x10 xl y0 y1 y2 y3 y4 y5 y6 y7 y8 y9 y10 yl
    obtain ⟨x0, x1, x2, x3, x4, x5, x6, x7, x8, x9, x10⟩ := H3.out.2.1.cells
    obtain ⟨y0, y1, y2, y3, y4, y5, y6, y7, y8, y9, y10⟩ := H3.out.2.2.cells
    dsimp only at x0 x1 x2 x3 y0 y1 y2 y3
    have xl := H3.out.2.1.1
    have yl := H3.out.2.2.1
    rcases hrl : rightL L with _ | _
    · clear hrl
      go_wp2_with fail
      (with_reducible refine (HW.out _ H3.out.1).mono ?_)
      rintro e w9 ⟨rfl, b9⟩
      have HB9 := Lib.hid (bchain (H3.out.1) b9)
      clear b9
      go_wp2
      go_ret
      exact ⟨rfl, HB9.out⟩
    go_wp2_with fail
    (with_reducible refine (HRM.out _ H3.out.1).mono ?_)
    rintro e w4 ⟨rfl, b4⟩
    have H4 := Lib.hid (⟨bchain H3.out.1 b4, H3.out.2.1.below b4, H3.out.2.2.below b4⟩ : Below w.heap.size w w4 ∧ _ ∧ _)
    clear b4 HRM H3 x0 x1 x2 x3 x4 x5 x6 x7 x8 x9 x10 xl y0 y1 y2 y3 y4 y5 y6 y7 y8 y9 y10 yl
    obtain ⟨x0, x1, x2, x3, x4, x5, x6, x7, x8, x9, x10⟩ := H4.out.2.1.cells
    obtain ⟨y0, y1, y2, y3, y4, y5, y6, y7, y8, y9, y10⟩ := H4.out.2.2.cells
    dsimp only at x0 x1 x2 x3 y0 y1 y2 y3
    have xl := H4.out.2.1.1
    have yl := H4.out.2.2.1
    rcases hrm : rightL M with _ | _
    · clear hrl hrm
      go_wp2_with fail
      (with_reducible refine (HW.out _ H4.out.1).mono ?_)
      rintro e w9 ⟨rfl, b9⟩
      have HB9 := Lib.hid (bchain (H4.out.1) b9)
      clear b9
      go_wp2
      go_ret
      exact ⟨rfl, HB9.out⟩
    have HR := Lib.hid (⟨hrl, hrm⟩ : _ ∧ _)
    clear hrl hrm
    go_wp2_with fail
    (with_reducible refine (HPL.out _ H4.out.1).mono ?_)
    intro e w5 hp
    obtain ⟨hc, b5⟩ := hp
    rcases hc with ⟨hr, _⟩ | ⟨_, v, rfl, hv⟩
    · exact absurd hr (by rw [HR.out.1]; decide)
    obtain ⟨A, c, rfl⟩ := ownsV hv
    have hA := (sl_get (at_of_row (k := 1) (xs := bytesL L) (fun _ => rfl) (by decide) hv)).1
    obtain ⟨n, hn⟩ : ∃ n, n = (bytesL L).length := ⟨_, rfl⟩
    rw [← hn]
    have H5 := Lib.hid (⟨bchain H4.out.1 b5, H4.out.2.1.below b5, H4.out.2.2.below b5⟩ : Below w.heap.size w w5 ∧ _ ∧ _)
    have HA := Lib.hid (⟨hn, hA⟩ : _ ∧ At w5 1 bEnc A (bytesL L))
    clear b5 hv hA hn HPL H4 x0 x1 x2 x3 x4 x5 x6 x7 x8 x9 x10 xl y0 y1 y2 y3 y4 y5 y6 y7 y8 y9 y10 yl
    obtain ⟨x0, x1, x2, x3, x4, x5, x6, x7, x8, x9, x10⟩ := H5.out.2.1.cells
    obtain ⟨y0, y1, y2, y3, y4, y5, y6, y7, y8, y9, y10⟩ := H5.out.2.2.cells
    dsimp only at x0 x1 x2 x3 y0 y1 y2 y3
    have xl := H5.out.2.1.1
    have yl := H5.out.2.2.1
    go_wp2_with fail
    (with_reducible refine (HPM.out _ H5.out.1).mono ?_)
    intro e w6 hp
    obtain ⟨hc, b6⟩ := hp
    rcases hc with ⟨hr, _⟩ | ⟨_, v, rfl, hv⟩
    · exact absurd hr (by rw [HR.out.2]; decide)
    obtain ⟨B, d, rfl⟩ := ownsV hv
    have hB := (sl_get (at_of_row (k := 1) (xs := bytesL M) (fun _ => rfl) (by decide) hv)).1
    obtain ⟨m, hm⟩ : ∃ m, m = (bytesL M).length := ⟨_, rfl⟩
    rw [← hm]
    have H6 := Lib.hid (⟨bchain H5.out.1 b6, H5.out.2.1.below b6, H5.out.2.2.below b6⟩ : Below w.heap.size w w6 ∧ _ ∧ _)
    have HB := Lib.hid (⟨HA.out.1, HA.out.2.below b6, hm, hB⟩ : _ ∧ At w6 1 bEnc A (bytesL L) ∧ _ ∧ At w6 1 bEnc B (bytesL M))
    clear b6 hv hB hm HPM H5 HA x0 x1 x2 x3 x4 x5 x6 x7 x8 x9 x10 xl y0 y1 y2 y3 y4 y5 y6 y7 y8 y9 y10 yl
    go_upto_region 5 with fail
    obtain ⟨r, hr⟩ : ∃ r, r = sameL L M := ⟨_, rfl⟩
    have k1 : ∀ V, ClB w6 V → Calls Tryd.prog 13 #[.slice A n c, .slice B m d] V fun e w' => e = .returned (.bool r) ∧ Below V.heap.size V w' := fun V hC => (same8_any A B n m c d _ _ V HB.out.1 HB.out.2.2.1 (HB.out.2.1.below hC) (HB.out.2.2.2.below hC) (pack_lt _) (pack_lt _)).mono fun e w' ⟨h1, h2⟩ => ⟨by rw [h1, hr, bytes_same HR.out.1 HR.out.2], by rw [h2]; exact Below.refl _ _⟩
    have k2 : ∀ V, ClB w6 V → Calls Tryd.prog 14 #[.agg #[.slice a0 L.secs.length p0, .slice a1 L.sigs.length p1, .slice a2 L.exits.length p2, .slice a3 L.flanks.length p3, .int .i64 L.t0, .int .i64 L.t1, .int .i64 L.t2, .int .i64 L.t3, .int .i64 L.t4, .int .i64 L.t5, .int .i64 L.t6], .agg #[.slice e0 M.secs.length q0, .slice e1 M.sigs.length q1, .slice e2 M.exits.length q2, .slice e3 M.flanks.length q3, .int .i64 M.t0, .int .i64 M.t1, .int .i64 M.t2, .int .i64 M.t3, .int .i64 M.t4, .int .i64 M.t5, .int .i64 M.t6]] V fun e w' => e = .returned (.bool r) ∧ Below V.heap.size V w' := fun V hC => by
      rw [hr]
      exact HSM.out V (bchain H6.out.1 hC)
    have HC := Lib.hid (⟨k1, k2⟩ : _ ∧ _)
    clear k1 k2 hr
    refine wp_region_rel_below [([(8, none)], none), ([(41, some 0)], none), ([(42, some 0)], none), ([(10, none), (43, some 0)], some (43, false)), ([(44, some 0), (43, some 1)], some (43, false)), ([(43, some 2), (45, some 0)], none), ([(46, some 0)], none), ([(7, none), (47, some 0)], some (47, false)), ([(9, none), (47, some 1)], some (47, false)), ([(48, some 1), (49, some 0), (47, some 2)], some (47, false)), ([(3, none), (47, some 3)], some (47, false)), ([(4, none), (47, some 4)], some (47, false)), ([(51, some 1), (52, some 0), (47, some 5)], some (47, false)), ([(50, some 3), (53, some 0), (47, some 6)], some (47, false)), ([(47, some 7), (54, some 0)], none)] [(0, 55)] (by kernel_rfl) (by kernel_rfl) ?_
    refine ob_det (c := .int .i64 0) ?_ ?_
    · intro ρ W hk hC
      simp only [seen, obOp]
      rintro h8
      replace h8 : ρ (.tmp 8) = .int .i64 0 := h8.trans rfl
      exact rel_value (by simp [go_sem, h8]) hC
    refine ob_det (c := .bool false) ?_ ?_
    · intro ρ W hk hC
      simp only [seen, obOp, List.getD_cons_zero]
      rintro h41
      exact rel_value (by simp [go_sem, h41, hk.const]) hC
    refine ob_det (c := .bool false) ?_ ?_
    · intro ρ W hk hC
      simp only [seen, obOp, List.getD_cons_zero]
      rintro h42
      exact rel_value (by simp [go_sem, h42]) hC
    refine ob_det (c := .int .i64 0) ?_ ?_
    · intro ρ W hk hC
      simp only [seen, obOp, List.getD_cons_zero]
      rintro h10 h43
      replace h10 : ρ (.tmp 10) = .int .i64 0 := h10.trans rfl
      refine ⟨fun _ => ?_, fun hn => absurd h43 hn⟩
      exact rel_value (by simp [go_sem, h10]) hC
    refine ob_det (c := .bool false) ?_ ?_
    · intro ρ W hk hC
      simp only [seen, obOp, List.getD_cons_zero, List.getD_cons_succ]
      rintro h44 h43
      refine ⟨fun _ => ?_, fun hn => absurd h43 hn⟩
      exact rel_value (by simp [go_sem, h44, hk.const]) hC
    refine ob_det (c := .bool false) ?_ ?_
    · intro ρ W hk hC
      simp only [seen, obOp, List.getD_cons_zero, List.getD_cons_succ]
      rintro h43 h45
      exact rel_value (by simp [go_sem, h43, h45, hk.const]) hC
    refine ob_det (c := .bool false) ?_ ?_
    · intro ρ W hk hC
      simp only [seen, obOp, List.getD_cons_zero]
      rintro h46
      exact rel_value (by simp [go_sem, h46]) hC
    refine ob_det (c := .slice A n c) ?_ ?_
    · intro ρ W hk hC
      simp only [seen, obOp, List.getD_cons_zero]
      rintro h7 h47
      replace h7 : ρ (.tmp 7) = .slice A n c := h7.trans rfl
      refine ⟨fun _ => ?_, fun hn => absurd h47 hn⟩
      exact rel_value (by simp [go_sem, h7]) hC
    refine ob_det (c := .slice B m d) ?_ ?_
    · intro ρ W hk hC
      simp only [seen, obOp, List.getD_cons_zero, List.getD_cons_succ]
      rintro h9 h47
      replace h9 : ρ (.tmp 9) = .slice B m d := h9.trans rfl
      refine ⟨fun _ => ?_, fun hn => absurd h47 hn⟩
      exact rel_value (by simp [go_sem, h9]) hC
    refine ob_det (c := .bool r) ?_ ?_
    · intro ρ W hk hC
      simp only [seen, obOp, List.getD_cons_zero, List.getD_cons_succ]
      rintro h48 h49 h47
      refine ⟨fun _ => ?_, fun hn => absurd h47 hn⟩
      exact rel_call (f := 13) (args := #[.slice A n c, .slice B m d]) (by simp [go_sem, h48, h49, hk.func]) hC (HC.out.1 W hC)
    refine ob_det (c := .agg #[.slice a0 L.secs.length p0, .slice a1 L.sigs.length p1, .slice a2 L.exits.length p2, .slice a3 L.flanks.length p3, .int .i64 L.t0, .int .i64 L.t1, .int .i64 L.t2, .int .i64 L.t3, .int .i64 L.t4, .int .i64 L.t5, .int .i64 L.t6]) ?_ ?_
    · intro ρ W hk hC
      simp only [seen, obOp, List.getD_cons_zero, List.getD_cons_succ]
      rintro h3 h47
      replace h3 : ρ (.tmp 3) = .pointer (some ⟨w.heap.size, 0, none⟩) := h3.trans rfl
      refine ⟨fun _ => ?_, fun hn => absurd h47 hn⟩
      exact rel_value (runLoad h3 (H6.out.2.1.below hC)) hC
    refine ob_det (c := .agg #[.slice e0 M.secs.length q0, .slice e1 M.sigs.length q1, .slice e2 M.exits.length q2, .slice e3 M.flanks.length q3, .int .i64 M.t0, .int .i64 M.t1, .int .i64 M.t2, .int .i64 M.t3, .int .i64 M.t4, .int .i64 M.t5, .int .i64 M.t6]) ?_ ?_
    · intro ρ W hk hC
      simp only [seen, obOp, List.getD_cons_zero, List.getD_cons_succ]
      rintro h4 h47
      replace h4 : ρ (.tmp 4) = .pointer (some ⟨w.heap.size + 1, 0, none⟩) := h4.trans rfl
      refine ⟨fun _ => ?_, fun hn => absurd h47 hn⟩
      exact rel_value (runLoad h4 (H6.out.2.2.below hC)) hC
    refine ob_det (c := .bool r) ?_ ?_
    · intro ρ W hk hC
      simp only [seen, obOp, List.getD_cons_zero, List.getD_cons_succ]
      rintro h51 h52 h47
      refine ⟨fun _ => ?_, fun hn => absurd h47 hn⟩
      exact rel_call (f := 14) (args := #[.agg #[.slice a0 L.secs.length p0, .slice a1 L.sigs.length p1, .slice a2 L.exits.length p2, .slice a3 L.flanks.length p3, .int .i64 L.t0, .int .i64 L.t1, .int .i64 L.t2, .int .i64 L.t3, .int .i64 L.t4, .int .i64 L.t5, .int .i64 L.t6], .agg #[.slice e0 M.secs.length q0, .slice e1 M.sigs.length q1, .slice e2 M.exits.length q2, .slice e3 M.flanks.length q3, .int .i64 M.t0, .int .i64 M.t1, .int .i64 M.t2, .int .i64 M.t3, .int .i64 M.t4, .int .i64 M.t5, .int .i64 M.t6]]) (by simp [go_sem, h51, h52, hk.func]) hC (HC.out.2 W hC)
    refine ob_det (c := .bool false) ?_ ?_
    · intro ρ W hk hC
      simp only [seen, obOp, List.getD_cons_zero, List.getD_cons_succ]
      rintro h50 h53 h47
      refine ⟨fun _ => ?_, fun hn => absurd h47 hn⟩
      exact rel_value (by simp [go_sem, h50, h53]) hC
    refine ob_det (c := .bool false) ?_ ?_
    · intro ρ W hk hC
      simp only [seen, obOp, List.getD_cons_zero, List.getD_cons_succ]
      rintro h47 h54
      exact rel_value (by simp [go_sem, h47, h54, hk.const]) hC
    intro vs w7 hC7
    simp only [endSeen, List.getD_cons_zero]
    intro h55
    simp only [writeAll, List.setIfInBounds_toArray, List.set_cons_zero, List.set_cons_succ, h55]
    have H7 := Lib.hid (⟨bchain H6.out.1 hC7, H6.out.2.1.below hC7, HB.out.2.1.below hC7⟩ : Below w.heap.size w w7 ∧ _ ∧ At w7 1 bEnc A (bytesL L))
    have HN := Lib.hid HB.out.1
    clear hC7 h55 HC H6 HB HSM
    by_cases ht1 : t < 1
    · have d1 : decide (t < 1) = true := decide_eq_true ht1
      go_wp2_with fail
      (with_reducible refine (HW.out _ H7.out.1).mono ?_)
      rintro e w9 ⟨rfl, b9⟩
      have HB9 := Lib.hid (bchain (H7.out.1) b9)
      clear b9
      go_wp2
      go_ret
      exact ⟨rfl, HB9.out⟩
    have d1 : decide (t < 1) = false := decide_eq_false ht1
    by_cases ht2 : t > 1000
    · have d2 : decide (t > 1000) = true := decide_eq_true ht2
      have d2' : (1000 : Int) < t := ht2
      go_wp2_with fail
      (with_reducible refine (HW.out _ H7.out.1).mono ?_)
      rintro e w9 ⟨rfl, b9⟩
      have HB9 := Lib.hid (bchain (H7.out.1) b9)
      clear b9
      go_wp2
      go_ret
      exact ⟨rfl, HB9.out⟩
    have d2 : decide (t > 1000) = false := decide_eq_false ht2
    have d2' : ¬ (1000 : Int) < t := ht2
    have HT := Lib.hid (⟨by omega, by omega⟩ : 1 ≤ t ∧ t ≤ 1000)
    obtain ⟨x0, x1, x2, x3, x4, x5, x6, x7, x8, x9, x10⟩ := H7.out.2.1.cells
    dsimp only at x0 x1 x2 x3
    have xl := H7.out.2.1.1
    go_wp2_with fail
    (with_reducible refine (HOW.out _ H7.out.1 (right_few HR.out.1)).mono ?_)
    rintro e w8 ⟨p', es, rfl, ho, b8⟩
    have H8 := Lib.hid (⟨ho.lay, bchain H7.out.1 b8, H7.out.2.1.below b8, H7.out.2.2.below b8⟩ : LayAt w8 p' L ∧ Below w.heap.size w w8 ∧ _ ∧ At w8 1 bEnc A (bytesL L))
    clear ho b8 H7 x0 x1 x2 x3 x4 x5 x6 x7 x8 x9 x10 xl d1 d2 d2' ht1 ht2 HOW
    go_wp2_with fail
    obtain ⟨X, hX⟩ : ∃ X, X = w8.alloc (.cells #[.slice p'.a0 L.secs.length p'.c0, .slice p'.a1 L.sigs.length p'.c1, .slice p'.a2 L.exits.length p'.c2, .slice p'.a3 L.flanks.length p'.c3, .int .i64 L.t0, .int .i64 L.t1, .int .i64 L.t2, .int .i64 L.t3, .int .i64 L.t4, .int .i64 L.t5, .int .i64 t] 29) := ⟨_, rfl⟩
    rw [← hX]
    have bX : Below w8.heap.size w8 X := by rw [hX]; exact bself
    have hput : Calls Tryd.prog 9 #[.agg #[.slice p'.a0 L.secs.length p'.c0, .slice p'.a1 L.sigs.length p'.c1, .slice p'.a2 L.exits.length p'.c2, .slice p'.a3 L.flanks.length p'.c3, .int .i64 L.t0, .int .i64 L.t1, .int .i64 L.t2, .int .i64 L.t3, .int .i64 L.t4, .int .i64 L.t5, .int .i64 t]] X (PutOf (setT L t) X) := put_any (setT L t) p' X ((H8.out.1.setT t).below bX) (HK.out X (bchain H8.out.2.1 bX))
    have HP := Lib.hid hput
    have hrs := setT_right HR.out.1 HT.out.1 HT.out.2
    clear hput hX
    (with_reducible refine HP.out.mono ?_)
    intro e w9 hp
    obtain ⟨hc, b9⟩ := hp
    rcases hc with ⟨hr, _⟩ | ⟨_, v, rfl, hv⟩
    · exact absurd hr (by rw [hrs]; decide)
    obtain ⟨C, f, rfl⟩ := ownsV hv
    have hC0 := (sl_get (at_of_row (k := 1) (xs := bytesL (setT L t)) (fun _ => rfl) (by decide) hv)).1
    have hlen : (bytesL (setT L t)).length = n := by rw [setT_length]; exact HN.out.symm
    rw [hlen]
    have b89 := bchain bX b9
    have H9 := Lib.hid (⟨bchain H8.out.2.1 b89, H8.out.2.2.1.below b89, H8.out.2.2.2.below b89, hC0, hlen⟩ : Below w.heap.size w w9 ∧ _ ∧ At w9 1 bEnc A (bytesL L) ∧ At w9 1 bEnc C (bytesL (setT L t)) ∧ _)
    have HRS := Lib.hid hrs
    clear hv hC0 hlen b9 bX b89 HP H8 hrs HT
    go_upto_region 12 with fail
    obtain ⟨r2, hr2⟩ : ∃ r2, r2 = decide (L.t6 = t) := ⟨_, rfl⟩
    have k1 : ∀ V, ClB w9 V → Calls Tryd.prog 13 #[.slice A n c, .slice C n f] V fun e w' => e = .returned (.bool r2) ∧ Below V.heap.size V w' := fun V hC => (same8_any A C n n c f _ _ V HN.out H9.out.2.2.2.2.symm (H9.out.2.2.1.below hC) (H9.out.2.2.2.1.below hC) (pack_lt _) (pack_lt _)).mono fun e w' ⟨h1, h2⟩ => ⟨by rw [h1, hr2, bytes_same HR.out.1 HRS.out, setT_same], by rw [h2]; exact Below.refl _ _⟩
    have HC2 := Lib.hid (⟨k1, fun V (hC : ClB w9 V) => HW.out V (bchain H9.out.1 hC)⟩ : _ ∧ _)
    have x10 : ∀ V, ClB w9 V → V.cell? ⟨w.heap.size, 10, none⟩ = some (.int .i64 L.t6) := fun V hC => (H9.out.2.1.below hC).2 10 _ rfl
    have hr2' : (L.t6 == t) = r2 := by rw [hr2]; rfl
    clear k1
    refine wp_region_rel_below [([(13, none)], none), ([(73, some 0)], none), ([(74, some 0)], none), ([(12, none), (75, some 0)], some (75, true)), ([(76, some 0), (75, some 1)], some (75, true)), ([(7, none), (75, some 2)], some (75, true)), ([(78, some 0), (75, some 3)], some (75, true)), ([(77, some 2), (79, some 0), (75, some 4)], some (75, true)), ([(75, some 5), (80, some 0)], none), ([(81, some 0)], none), ([(7, none), (82, some 0)], some (82, true)), ([(12, none), (82, some 1)], some (82, true)), ([(83, some 1), (84, some 0), (82, some 2)], some (82, true)), ([(3, none), (82, some 3)], some (82, true)), ([(86, some 0), (82, some 4)], some (82, true)), ([(87, some 0), (82, some 5)], some (82, true)), ([(2, none), (82, some 6)], some (82, true)), ([(88, some 1), (89, some 0), (82, some 7)], some (82, true)), ([(85, some 5), (90, some 0), (82, some 8)], some (82, true)), ([(82, some 9), (91, some 0)], none), ([(92, some 0)], none), ([(93, some 0)], some (93, true)), ([(93, some 1), (94, some 0)], none), ([(95, some 0)], none)] [(0, 6)] (by kernel_rfl) (by kernel_rfl) ?_
    refine ob_det (c := .int .i64 0) ?_ ?_
    · intro ρ W hk hC
      simp only [seen, obOp]
      rintro h13
      replace h13 : ρ (.tmp 13) = .int .i64 0 := h13.trans rfl
      exact rel_value (by simp [go_sem, h13]) hC
    refine ob_det (c := .bool true) ?_ ?_
    · intro ρ W hk hC
      simp only [seen, obOp, List.getD_cons_zero]
      rintro h73
      exact rel_value (by simp [go_sem, h73, hk.const]) hC
    refine ob_det (c := .bool true) ?_ ?_
    · intro ρ W hk hC
      simp only [seen, obOp, List.getD_cons_zero]
      rintro h74
      exact rel_value (by simp [go_sem, h74]) hC
    refine ob_det (c := .slice C n f) ?_ ?_
    · intro ρ W hk hC
      simp only [seen, obOp, List.getD_cons_zero]
      rintro h12 h75
      replace h12 : ρ (.tmp 12) = .slice C n f := h12.trans rfl
      refine ⟨fun _ => ?_, fun hn => absurd h75 hn⟩
      exact rel_value (by simp [go_sem, h12]) hC
    refine ob_det (c := .int .i64 (n : Nat)) ?_ ?_
    · intro ρ W hk hC
      simp only [seen, obOp, List.getD_cons_zero, List.getD_cons_succ]
      rintro h76 h75
      refine ⟨fun _ => ?_, fun hn => absurd h75 hn⟩
      exact rel_value (by simp [go_sem, h76]) hC
    refine ob_det (c := .slice A n c) ?_ ?_
    · intro ρ W hk hC
      simp only [seen, obOp, List.getD_cons_zero, List.getD_cons_succ]
      rintro h7 h75
      replace h7 : ρ (.tmp 7) = .slice A n c := h7.trans rfl
      refine ⟨fun _ => ?_, fun hn => absurd h75 hn⟩
      exact rel_value (by simp [go_sem, h7]) hC
    refine ob_det (c := .int .i64 (n : Nat)) ?_ ?_
    · intro ρ W hk hC
      simp only [seen, obOp, List.getD_cons_zero, List.getD_cons_succ]
      rintro h78 h75
      refine ⟨fun _ => ?_, fun hn => absurd h75 hn⟩
      exact rel_value (by simp [go_sem, h78]) hC
    refine ob_det (c := .bool true) ?_ ?_
    · intro ρ W hk hC
      simp only [seen, obOp, List.getD_cons_zero, List.getD_cons_succ]
      rintro h77 h79 h75
      refine ⟨fun _ => ?_, fun hn => absurd h75 hn⟩
      exact rel_value (by simp [go_sem, h77, h79]) hC
    refine ob_det (c := .bool true) ?_ ?_
    · intro ρ W hk hC
      simp only [seen, obOp, List.getD_cons_zero, List.getD_cons_succ]
      rintro h75 h80
      exact rel_value (by simp [go_sem, h75, h80, hk.const]) hC
    refine ob_det (c := .bool true) ?_ ?_
    · intro ρ W hk hC
      simp only [seen, obOp, List.getD_cons_zero]
      rintro h81
      exact rel_value (by simp [go_sem, h81]) hC
    refine ob_det (c := .slice A n c) ?_ ?_
    · intro ρ W hk hC
      simp only [seen, obOp, List.getD_cons_zero]
      rintro h7 h82
      replace h7 : ρ (.tmp 7) = .slice A n c := h7.trans rfl
      refine ⟨fun _ => ?_, fun hn => absurd h82 hn⟩
      exact rel_value (by simp [go_sem, h7]) hC
    refine ob_det (c := .slice C n f) ?_ ?_
    · intro ρ W hk hC
      simp only [seen, obOp, List.getD_cons_zero, List.getD_cons_succ]
      rintro h12 h82
      replace h12 : ρ (.tmp 12) = .slice C n f := h12.trans rfl
      refine ⟨fun _ => ?_, fun hn => absurd h82 hn⟩
      exact rel_value (by simp [go_sem, h12]) hC
    refine ob_det (c := .bool r2) ?_ ?_
    · intro ρ W hk hC
      simp only [seen, obOp, List.getD_cons_zero, List.getD_cons_succ]
      rintro h83 h84 h82
      refine ⟨fun _ => ?_, fun hn => absurd h82 hn⟩
      exact rel_call (f := 13) (args := #[.slice A n c, .slice C n f]) (by simp [go_sem, h83, h84, hk.func]) hC (HC2.out.1 W hC)
    refine ob_det (c := .pointer (some ⟨w.heap.size, 4, none⟩)) ?_ ?_
    · intro ρ W hk hC
      simp only [seen, obOp, List.getD_cons_zero, List.getD_cons_succ]
      rintro h3 h82
      replace h3 : ρ (.tmp 3) = .pointer (some ⟨w.heap.size, 0, none⟩) := h3.trans rfl
      refine ⟨fun _ => ?_, fun hn => absurd h82 hn⟩
      exact rel_value (by simp [go_sem, h3]) hC
    refine ob_det (c := .pointer (some ⟨w.heap.size, 10, none⟩)) ?_ ?_
    · intro ρ W hk hC
      simp only [seen, obOp, List.getD_cons_zero, List.getD_cons_succ]
      rintro h86 h82
      refine ⟨fun _ => ?_, fun hn => absurd h82 hn⟩
      exact rel_value (by simp [go_sem, h86]) hC
    refine ob_det (c := .int .i64 L.t6) ?_ ?_
    · intro ρ W hk hC
      simp only [seen, obOp, List.getD_cons_zero, List.getD_cons_succ]
      rintro h87 h82
      refine ⟨fun _ => ?_, fun hn => absurd h82 hn⟩
      exact rel_value (by simp [go_sem, h87, x10 W hC]) hC
    refine ob_det (c := .int .i64 t) ?_ ?_
    · intro ρ W hk hC
      simp only [seen, obOp, List.getD_cons_zero, List.getD_cons_succ]
      rintro h2 h82
      replace h2 : ρ (.tmp 2) = .int .i64 t := h2.trans rfl
      refine ⟨fun _ => ?_, fun hn => absurd h82 hn⟩
      exact rel_value (by simp [go_sem, h2]) hC
    refine ob_det (c := .bool r2) ?_ ?_
    · intro ρ W hk hC
      simp only [seen, obOp, List.getD_cons_zero, List.getD_cons_succ]
      rintro h88 h89 h82
      refine ⟨fun _ => ?_, fun hn => absurd h82 hn⟩
      exact rel_value (by simp [go_sem, h88, h89, hr2']) hC
    refine ob_det (c := .bool true) ?_ ?_
    · intro ρ W hk hC
      simp only [seen, obOp, List.getD_cons_zero, List.getD_cons_succ]
      rintro h85 h90 h82
      refine ⟨fun _ => ?_, fun hn => absurd h82 hn⟩
      exact rel_value (by simp [go_sem, h85, h90]) hC
    refine ob_det (c := .bool true) ?_ ?_
    · intro ρ W hk hC
      simp only [seen, obOp, List.getD_cons_zero, List.getD_cons_succ]
      rintro h82 h91
      exact rel_value (by simp [go_sem, h82, h91, hk.const]) hC
    refine ob_det (c := .bool true) ?_ ?_
    · intro ρ W hk hC
      simp only [seen, obOp, List.getD_cons_zero]
      rintro h92
      exact rel_value (by simp [go_sem, h92]) hC
    refine ob_det (c := .bool true) ?_ ?_
    · intro ρ W hk hC
      simp only [seen, obOp, List.getD_cons_zero]
      rintro h93
      refine ⟨fun _ => ?_, fun hn => absurd h93 hn⟩
      exact rel_call (f := 8) (args := #[]) (by simp [go_sem, hk.func]) hC (HC2.out.2 W hC)
    refine ob_det (c := .bool true) ?_ ?_
    · intro ρ W hk hC
      simp only [seen, obOp, List.getD_cons_zero, List.getD_cons_succ]
      rintro h93 h94
      exact rel_value (by simp [go_sem, h93, h94, hk.const]) hC
    refine ob_det (c := .bool true) ?_ ?_
    · intro ρ W hk hC
      simp only [seen, obOp, List.getD_cons_zero]
      rintro h95
      exact rel_value (by simp [go_sem, h95]) hC
    intro vs w10 hC10
    simp only [endSeen, List.getD_cons_zero]
    intro h6
    simp only [writeAll, List.setIfInBounds_toArray, List.set_cons_zero, List.set_cons_succ, h6]
    go_wp2
    go_ret
    exact ⟨rfl, bchain H9.out.1 hC10⟩
end Go.Proofs.YtpnnbihofoomeaaDoor

/-
  PlanApart: two layouts whose numbers may be have the same bytes just if they are the same; of two with other Times alone the bytes are as many (whatever the layouts and the number: true).
  Conditions: port.kinds and port.none (and join.end, where it is listed) start as the program's text lays them (the tied card; it ties them to the pruned copy that the seat holds).
-/
namespace Go.Proofs.YtpnnbihofoomeaaDoor
open Go.RowKit Go.WideShapes Go.ChangeShapes Go.ChangeAt Go.WideMaps Go.WideElems Go.Joins Go.Deep

set_option maxRecDepth 100000 in
theorem planApart_lifted (os : Os) (started : os.Started) (H : Type) (enc : TypeId × Value → H) :
    ReturnsInHanded {} Tryd.checked os 6 .any (fun w args => (Rows.planApartSpec.pre enc Tryd.prog Tryd.f6 [] false w args ∧ laidMetH Tryd.prog laidL w) ∧ sizedMet enc Tryd.prog Tryd.f6 (OpenSpec.ofChange Rows.planApartSpec) false w args)
      (Rows.planApartSpec.post enc Tryd.prog Tryd.f6 false true false false) := by
  refine law_lifted_laid (C := Tryd.checked) (tb := 4) ownP started (by kernel_rfl) Tryd.func6
    (ChangeSpec.witness_shaped (enc := enc) (C := Tryd.checked) (os := os) (X := fun w _ => laidMetH Tryd.prog laidL w) false (World.doorLaid Tryd.prog 400 os) #[.agg #[.slice none 0 0, .slice none 0 0, .slice none 0 0, .slice none 0 0, .int .i64 0, .int .i64 0, .int .i64 0, .int .i64 0, .int .i64 0, .int .i64 0, .int .i64 0], .agg #[.slice none 0 0, .slice none 0 0, .slice none 0 0, .slice none 0 0, .int .i64 0, .int .i64 0, .int .i64 0, .int .i64 0, .int .i64 0, .int .i64 0, .int .i64 0], .int .i64 0] 8 rfl (World.shaped_of_RefB (by kernel_rfl) (by kernel_rfl)) (by kernel_rfl) (by kernel_rfl) (by kernel_rfl) (door_met os _))
    laidP (by kernel_rfl) rfl rfl Tryd.underlying4 ?_
  intro W base args ds p hval0 hA0 hlt hL
  have hval : ∀ (j : Nat) t v, Tryd.f6.params[j]? = some t → args[j]? = some v → Value.okWide Tryd.prog W .any base t v := hval0
  have hA : DataW.TrodAll enc Tryd.prog W 0 (fun _ => true) true Tryd.f6.params.toList args.toList ds p := hA0
  clear hval0 hA0
  rw [Tryd.params6] at hA hval
  obtain ⟨vs⟩ := args
  dsimp only at hA
  obtain ⟨v0, vs0, d0, ds0, p0, q0, rfl, rfl, rfl, h0, hA⟩ := trodAll_cons hA
  obtain ⟨v1, vs1, d1, ds1, p1, q1, rfl, rfl, rfl, h1, hA⟩ := trodAll_cons hA
  obtain ⟨v2, vs2, d2, ds2, p2, q2, rfl, rfl, rfl, h2, hA⟩ := trodAll_cons hA
  obtain ⟨rfl, rfl, rfl⟩ := trodAll_nil hA
  obtain ⟨L0, w0, rfl, hl0⟩ := open_layout (hval 0 29 v0 rfl rfl) h0
  obtain ⟨L1, w1, rfl, hl1⟩ := open_layout (hval 1 29 v1 rfl rfl) h1
  obtain ⟨x2, rfl, rfl, rfl, b2⟩ := open_int Tryd.underlying3 (hval 2 3 v2 rfl rfl) h2
  exact ⟨⟨rfl, rfl, rfl⟩, planApart_walk L0 w0 L1 w1 x2 W hl0 hl1 (kinds_of_laid hL)⟩

theorem planApart_holds : Rows.PlanApartSaid :=
  OpenClaim.holds_of_wide 6 Tryd.f6 rfl rfl rfl rfl rfl rfl rfl ⟨rfl, rfl, rfl, rfl, rfl⟩ rfl rfl rfl rfl rfl (by kernel_rfl) Tryd.func6 (by kernel_rfl)
    (of_decide_eq_true (by kernel_rfl)) (by unfold Func.isWrapper; first | (rw [if_pos (by decide +kernel)]; kernel_rfl) | (rw [if_neg (of_decide_eq_false (by kernel_rfl))]; exact ⟨rfl, rfl⟩))
    (fun os started H enc _ => planApart_lifted os started H enc)

theorem planApart_card : Rows.PlanApartCardSaid :=
  Claim7.holds_tied_plain_at .later [] [.data, .data] true (true, "479b1d365078aa6a65adb860a79fd47d98a9c035ed1b6145318c218d63b0cd9c") false
    planApart_holds (fun _ h => by cases h) (by kernel_rfl) (fun _ h => by cases h) planApart_row_tie rfl ⟨rfl, rfl⟩ (by kernel_rfl) rfl
    (fun f fn hf hfn => by
      obtain rfl : f = 6 := Option.some.inj ((show Tryd.prog.funcNamed "lockbar/lockbarlaw08.PlanApart" = some 6 by kernel_rfl).symm.trans hf) |>.symm
      obtain rfl : fn = Tryd.f6 := (Option.some.inj (Tryd.func6.symm.trans hfn)).symm
      exact ⟨by kernel_rfl, fun j t ht => by
        rw [Tryd.params6] at ht
        have hm : t ∈ [29, 29, 3] := by simpa using Array.mem_of_getElem? ht
        have hall : ([29, 29, 3].all fun u => !Tryd.prog.wantsStandIn u) = true := by kernel_rfl
        exact (show Tryd.prog.wantsStandIn t = false by simpa using List.all_eq_true.1 hall t hm)⟩)
    (by kernel_rfl)
#print axioms planApart_card
end Go.Proofs.YtpnnbihofoomeaaDoor
