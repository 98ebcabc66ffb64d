/-
  lockbarref08.Put.
-/
import Derived.Test.YtpnnbihofoomeaaDoorM9

namespace Go.Proofs.YtpnnbihofoomeaaDoor
open Go.RowKit Go.Shelf
attribute [local go_sem] Oper.semAt_some run_buildNone

/-- The two variables of Put: the layout, the bits at hand. -/
structure P8 (g k : Nat) (L : Lay) (P : Where) (w W : World) (A : Option Addr) (n cp N : Nat) (bl : List Bool) : Prop where
  lx : BoxL W g L P
  bx : W.heap[k]? = some (.cells #[.slice A n cp, .int .i64 (N : Nat)] 54 (0, 0))
  bv : BitsV W (.agg #[.slice A n cp, .int .i64 (N : Nat)]) bl
  below : Below g w W
  lt : g < k
theorem P8.next {g k : Nat} {L : Lay} {P : Where} {w W W' : World} {A : Option Addr} {n cp N : Nat} {bl : List Bool} (h : P8 g k L P w W A n cp N bl) (b : Below W.heap.size W W') : P8 g k L P w W' A n cp N bl :=
  ⟨h.lx.below b, (b.block _ (Array.getElem?_eq_some_iff.1 h.bx).1).trans h.bx, h.bv.below b, h.below.trans (b.mono (Nat.le_of_lt h.lx.1)), h.lt⟩
theorem P8.put {g k : Nat} {L : Lay} {P : Where} {w W : World} {A A' : Option Addr} {n cp N n' cp' N' : Nat} {bl bl' : List Bool} (h : P8 g k L P w W A n cp N bl) (b : BitsV W (.agg #[.slice A' n' cp', .int .i64 (N' : Nat)]) bl') :
    P8 g k L P w ((W.setCell ⟨k, 0, none⟩ (.slice A' n' cp')).setCell ⟨k, 1, none⟩ (.int .i64 (N' : Nat))) A' n' cp' N' bl' := by
  have h1 := heap_setCell_same _ k 0 _ _ (.slice A' n' cp') h.bx
  have hlt := h.lt
  refine ⟨(h.lx.set (by omega)).set (by omega), ?_, bitsV_set (bitsV_set b h.bx) h1, (h.below.setCell (by dsimp only; omega) _).setCell (by dsimp only; omega) _, h.lt⟩
  rw [heap_setCell_same _ _ _ _ _ _ h1]
  rfl
theorem pre_len {L : Lay} (hr : rightL L = true) {pre : List Fld} (h : pre <+: fieldsL L) : (bitsF pre).length ≤ 1600 := by
  obtain ⟨t, ht⟩ := h
  have h2 := (right_fields hr).2.1
  rw [← ht, widF_append] at h2
  rw [bitsF_length]
  omega
theorem pre_fit {L : Lay} (hr : rightL L = true) {pre fs : List Fld} (h : pre ++ fs <+: fieldsL L) : ∀ f ∈ fs, fitF f := by
  obtain ⟨t, ht⟩ := h
  intro f hf
  refine (right_fields hr).1 f ?_
  rw [← ht]
  exact List.mem_append_left _ (List.mem_append_right _ hf)

set_option maxRecDepth 100000 in
set_option maxHeartbeats 64000000 in
theorem put8r_any (L : Lay) (P : Where) (w : World) (hL : LayAt w P L) : Calls Tryd.prog 10 #[L.val P] w (PutOf L w) := by
  have HR := Lib.hid (fun W (h : Below w.heap.size w W) => rRight_any L P W (hL.below h))
  have HX := Lib.hid (BoxL.make (W := w) (L := L) (p := P) (n := w.heap.size) 29 rfl)
  have HLA := Lib.hid hL
  clear hL
  obtain ⟨a0, a1, a2, a3, p0, p1, p2, p3⟩ := P
  unfold Lay.val at *
  obtain ⟨g, hg⟩ : ∃ g, g = w.heap.size := ⟨_, rfl⟩
  go_enter Tryd.func10, Tryd.ntmps10
  go_wp2_with fail
  (with_reducible refine (HR.out _ bself).mono ?_)
  rintro e w1 ⟨rfl, b1⟩
  have H1 := Lib.hid (⟨HX.out.below b1, bchain bself b1⟩ : _ ∧ Below w.heap.size w w1)
  clear b1 HX HR
  rw [← hg] at H1 ⊢
  have HG := Lib.hid hg
  clear hg
  rcases hrl : rightL L with _ | _
  · have HRL := Lib.hid hrl
    clear hrl
    go_wp2
    exact bodyPost_ret (v := .tuple #[.slice none 0 0, .int .i64 60]) (by simp [results, Tryd.results10, go_sem]) rfl ⟨.inl ⟨HRL.out, rfl⟩, by have h := HG.out; rw [← h]; exact H1.out.2⟩
  have HRL := Lib.hid hrl
  obtain ⟨hb0, hb1, hb2, hb3⟩ := ((right_iff L).1 hrl).1
  clear hrl
  obtain ⟨k, hk⟩ : ∃ k, k = w1.heap.size := ⟨_, rfl⟩
  obtain ⟨X, hX⟩ : ∃ X, X = w1.alloc (.cells #[.slice none 0 0, .int .i64 0] 54) := ⟨_, rfl⟩
  have st : P8 g k L ⟨a0, a1, a2, a3, p0, p1, p2, p3⟩ w X none 0 0 0 [] := by
    rw [hX]
    exact ⟨H1.out.1.below bself, by rw [hk]; exact World.alloc_heap_new _ _, bitsV_nil _, H1.out.2.trans (bself.mono (Nat.le_of_lt H1.out.1.1)), by rw [hk]; exact H1.out.1.1⟩
  have H2 := Lib.hid st
  clear st H1
  go_upto_region 4 with fail
  rw [← hX]
  rw [← hk]
  clear hX hk
  have HF := Lib.hid (show fitF (((L.secs.length : Nat) : Int), 5) ∧ fitF (((L.sigs.length : Nat) : Int), 4) ∧ fitF (((L.exits.length : Nat) : Int), 4) ∧ fitF (((L.flanks.length : Nat) : Int), 5) by
    have h := pre_fit HRL.out (pre := []) (fs := headF L) (by simpa using up0 L)
    exact ⟨h _ (by simp [headF]), h _ (by simp [headF]), h _ (by simp [headF]), h _ (by simp [headF])⟩)
  obtain ⟨bl, hbl⟩ : ∃ bl : List Bool, bl = [] := ⟨_, rfl⟩
  rw [← hbl] at H2
  have HL := Lib.hid (show bl.length ≤ 1600 by rw [hbl]; simp)
  have HBL := Lib.hid hbl
  have x0b : ∀ V, ClB X V → V.cell? ⟨g, 0, none⟩ = some (.slice a0 L.secs.length p0) := fun V h => (H2.out.next h).lx.cells.1
  have x1b : ∀ V, ClB X V → V.cell? ⟨g, 1, none⟩ = some (.slice a1 L.sigs.length p1) := fun V h => (H2.out.next h).lx.cells.2.1
  have x2b : ∀ V, ClB X V → V.cell? ⟨g, 2, none⟩ = some (.slice a2 L.exits.length p2) := fun V h => (H2.out.next h).lx.cells.2.2.1
  have x3b : ∀ V, ClB X V → V.cell? ⟨g, 3, none⟩ = some (.slice a3 L.flanks.length p3) := fun V h => (H2.out.next h).lx.cells.2.2.2.1
  have c0b : ∀ V, ClB X V → V.cell? ⟨k, 0, none⟩ = some (.slice none 0 0) := fun V h => by have q := (H2.out.next h).bx; simp [World.cell?, q]
  have c1b : ∀ V, ClB X V → V.cell? ⟨k, 1, none⟩ = some (.int .i64 0) := fun V h => by have q := (H2.out.next h).bx; simp [World.cell?, q]
  have HV := Lib.hid (show BitsV X (.agg #[.slice none 0 0, .int .i64 0]) (bl ++ bitsF []) by rw [hbl]; exact bitsV_nil _)
  clear hbl
  refine (wpIn_wide (n := 5)).1 (wpIn_region_rel_head (.inl rfl) 17 [([(4, none)], none), ([(1, none)], none), ([(18, some 0)], none), ([(19, some 0)], none), ([(17, some 3), (20, some 0)], none), ([(1, none)], none), ([(22, some 0)], none), ([(23, some 0)], none), ([(21, some 3), (24, some 0)], none), ([(1, none)], none), ([(26, some 0)], none), ([(27, some 0)], none), ([(25, some 3), (28, some 0)], none), ([(1, none)], none), ([(30, some 0)], none), ([(31, some 0)], none), ([(29, some 3), (32, some 0)], none)] [(0, 33)] (by kernel_rfl) (by kernel_rfl) (by kernel_rfl) (by kernel_rfl) (by kernel_rfl) (by kernel_rfl) (by kernel_rfl) (by kernel_rfl) ?_)
  simp only [List.take_succ_cons, List.take_zero, List.drop_succ_cons, List.drop_zero]
  refine ob_det (c := .agg #[.slice none 0 0, .int .i64 0]) ?_ ?_
  · intro ρ W hk hC
    simp only [seen, obOp]
    rintro h4
    replace h4 : ρ (.tmp 4) = .pointer (some ⟨k, 0, none⟩) := h4.trans rfl
    exact rel_value (by simp [go_sem, h4, c0b W hC, c1b W hC]) hC
  refine ob_det (c := .pointer (some ⟨g, 0, none⟩)) ?_ ?_
  · intro ρ W hk hC
    simp only [seen, obOp]
    rintro h1
    replace h1 : ρ (.tmp 1) = .pointer (some ⟨g, 0, none⟩) := h1.trans rfl
    exact rel_value (by simp [go_sem, h1]) hC
  refine ob_det (c := .slice a0 L.secs.length p0) ?_ ?_
  · intro ρ W hk hC
    simp only [seen, obOp, List.getD_cons_zero]
    rintro h18
    exact rel_value (by simp [go_sem, h18, x0b W hC]) hC
  refine ob_det (c := .int .i64 (L.secs.length : Nat)) ?_ ?_
  · intro ρ W hk hC
    simp only [seen, obOp, List.getD_cons_zero]
    rintro h19
    exact rel_value (by simp [go_sem, h19]) hC
  refine ⟨fun v w' => BitsV w' v (bl ++ bitsF [(((L.secs.length : Nat) : Int), 5)]), fun _ _ _ h k => h.below k, ?_, ?_⟩
  · intro ρ W hk hC
    simp only [seen, obOp, List.getD_cons_zero, List.getD_cons_succ]
    rintro h17 h20
    refine rel_enter (f := 27) (args := #[.agg #[.slice none 0 0, .int .i64 0], .int .i64 ((L.secs.length : Nat) : Int), .int .i64 5]) (by simp [go_sem, h17, h20, hk.const, hk.func]) ((put8_next (fs := []) (((L.secs.length : Nat) : Int)) 5 (HV.out.below hC) HF.out.1 (by have := HL.out; simp [widF]; omega)).mono ?_)
    rintro e w9 ⟨v, rfl, hb, b9⟩
    exact ⟨_, rfl, hC.step b9, b9, hb⟩
  refine ob_det (c := .pointer (some ⟨g, 1, none⟩)) ?_ ?_
  · intro ρ W hk hC
    simp only [seen, obOp]
    rintro h1
    replace h1 : ρ (.tmp 1) = .pointer (some ⟨g, 0, none⟩) := h1.trans rfl
    exact rel_value (by simp [go_sem, h1]) hC
  refine ob_det (c := .slice a1 L.sigs.length p1) ?_ ?_
  · intro ρ W hk hC
    simp only [seen, obOp, List.getD_cons_zero]
    rintro h22
    exact rel_value (by simp [go_sem, h22, x1b W hC]) hC
  refine ob_det (c := .int .i64 (L.sigs.length : Nat)) ?_ ?_
  · intro ρ W hk hC
    simp only [seen, obOp, List.getD_cons_zero]
    rintro h23
    exact rel_value (by simp [go_sem, h23]) hC
  refine ⟨fun v w' => BitsV w' v (bl ++ bitsF [(((L.secs.length : Nat) : Int), 5), (((L.sigs.length : Nat) : Int), 4)]), fun _ _ _ h k => h.below k, ?_, ?_⟩
  · intro ρ W hk hC
    simp only [seen, obOp, List.getD_cons_zero, List.getD_cons_succ]
    rintro ⟨A21, n21, c21, N21, h21, e21, m21, o21⟩ h24
    refine rel_enter (f := 27) (args := #[.agg #[.slice A21 n21 c21, .int .i64 (N21 : Nat)], .int .i64 ((L.sigs.length : Nat) : Int), .int .i64 4]) (by simp [go_sem, h21, h24, hk.const, hk.func]) ((put8_next (fs := [(((L.secs.length : Nat) : Int), 5)]) (((L.sigs.length : Nat) : Int)) 4 (show BitsV W _ (bl ++ bitsF [(((L.secs.length : Nat) : Int), 5)]) from ⟨A21, n21, c21, N21, rfl, e21, m21, o21⟩) HF.out.2.1 (by have := HL.out; simp [widF]; omega)).mono ?_)
    rintro e w9 ⟨v, rfl, hb, b9⟩
    exact ⟨_, rfl, hC.step b9, b9, hb⟩
  refine ob_det (c := .pointer (some ⟨g, 2, none⟩)) ?_ ?_
  · intro ρ W hk hC
    simp only [seen, obOp]
    rintro h1
    replace h1 : ρ (.tmp 1) = .pointer (some ⟨g, 0, none⟩) := h1.trans rfl
    exact rel_value (by simp [go_sem, h1]) hC
  refine ob_det (c := .slice a2 L.exits.length p2) ?_ ?_
  · intro ρ W hk hC
    simp only [seen, obOp, List.getD_cons_zero]
    rintro h26
    exact rel_value (by simp [go_sem, h26, x2b W hC]) hC
  refine ob_det (c := .int .i64 (L.exits.length : Nat)) ?_ ?_
  · intro ρ W hk hC
    simp only [seen, obOp, List.getD_cons_zero]
    rintro h27
    exact rel_value (by simp [go_sem, h27]) hC
  refine ⟨fun v w' => BitsV w' v (bl ++ bitsF [(((L.secs.length : Nat) : Int), 5), (((L.sigs.length : Nat) : Int), 4), (((L.exits.length : Nat) : Int), 4)]), fun _ _ _ h k => h.below k, ?_, ?_⟩
  · intro ρ W hk hC
    simp only [seen, obOp, List.getD_cons_zero, List.getD_cons_succ]
    rintro ⟨A25, n25, c25, N25, h25, e25, m25, o25⟩ h28
    refine rel_enter (f := 27) (args := #[.agg #[.slice A25 n25 c25, .int .i64 (N25 : Nat)], .int .i64 ((L.exits.length : Nat) : Int), .int .i64 4]) (by simp [go_sem, h25, h28, hk.const, hk.func]) ((put8_next (fs := [(((L.secs.length : Nat) : Int), 5), (((L.sigs.length : Nat) : Int), 4)]) (((L.exits.length : Nat) : Int)) 4 (show BitsV W _ (bl ++ bitsF [(((L.secs.length : Nat) : Int), 5), (((L.sigs.length : Nat) : Int), 4)]) from ⟨A25, n25, c25, N25, rfl, e25, m25, o25⟩) HF.out.2.2.1 (by have := HL.out; simp [widF]; omega)).mono ?_)
    rintro e w9 ⟨v, rfl, hb, b9⟩
    exact ⟨_, rfl, hC.step b9, b9, hb⟩
  refine ob_det (c := .pointer (some ⟨g, 3, none⟩)) ?_ ?_
  · intro ρ W hk hC
    simp only [seen, obOp]
    rintro h1
    replace h1 : ρ (.tmp 1) = .pointer (some ⟨g, 0, none⟩) := h1.trans rfl
    exact rel_value (by simp [go_sem, h1]) hC
  refine ob_det (c := .slice a3 L.flanks.length p3) ?_ ?_
  · intro ρ W hk hC
    simp only [seen, obOp, List.getD_cons_zero]
    rintro h30
    exact rel_value (by simp [go_sem, h30, x3b W hC]) hC
  refine ob_det (c := .int .i64 (L.flanks.length : Nat)) ?_ ?_
  · intro ρ W hk hC
    simp only [seen, obOp, List.getD_cons_zero]
    rintro h31
    exact rel_value (by simp [go_sem, h31]) hC
  refine ⟨fun v w' => BitsV w' v (bl ++ bitsF [(((L.secs.length : Nat) : Int), 5), (((L.sigs.length : Nat) : Int), 4), (((L.exits.length : Nat) : Int), 4), (((L.flanks.length : Nat) : Int), 5)]), fun _ _ _ h k => h.below k, ?_, ?_⟩
  · intro ρ W hk hC
    simp only [seen, obOp, List.getD_cons_zero, List.getD_cons_succ]
    rintro ⟨A29, n29, c29, N29, h29, e29, m29, o29⟩ h32
    refine rel_enter (f := 27) (args := #[.agg #[.slice A29 n29 c29, .int .i64 (N29 : Nat)], .int .i64 ((L.flanks.length : Nat) : Int), .int .i64 5]) (by simp [go_sem, h29, h32, hk.const, hk.func]) ((put8_next (fs := [(((L.secs.length : Nat) : Int), 5), (((L.sigs.length : Nat) : Int), 4), (((L.exits.length : Nat) : Int), 4)]) (((L.flanks.length : Nat) : Int)) 5 (show BitsV W _ (bl ++ bitsF [(((L.secs.length : Nat) : Int), 5), (((L.sigs.length : Nat) : Int), 4), (((L.exits.length : Nat) : Int), 4)]) from ⟨A29, n29, c29, N29, rfl, e29, m29, o29⟩) HF.out.2.2.2 (by have := HL.out; simp [widF]; omega)).mono ?_)
    rintro e w9 ⟨v, rfl, hb, b9⟩
    exact ⟨_, rfl, hC.step b9, b9, hb⟩
  intro vs w5 hC5
  simp only [endSeen, List.getD_cons_zero]
  intro hT
  simp only [writeAll, List.setIfInBounds_toArray, List.set_cons_zero, List.set_cons_succ]
  obtain ⟨A4, n4, c4, N4, h40, e4, m4, o4⟩ := hT
  rw [show vs 33 = _ from h40]
  have s5 := H2.out.next hC5
  have y0 : w5.cell? ⟨k, 0, none⟩ = some (.slice none 0 0) := by simp [World.cell?, s5.bx]
  have y1 : w5.cell? ⟨k, 1, none⟩ = some (.int .i64 0) := by simp [World.cell?, s5.bx]
  have yl := (Array.getElem?_eq_some_iff.1 s5.bx).1
  have yf : ∀ o, w5.frozen? ⟨k, o, none⟩ = false := fun o => frozen_of_row _ _ _ _ _ s5.bx
  have H3 := Lib.hid (s5.put ⟨A4, n4, c4, N4, rfl, e4, m4, o4⟩)
  clear x0b x1b x2b x3b HV HL
  clear s5 e4 m4 o4 h40 hC5 c0b c1b H2
  gi_wp2
  go_wp2_with fail
  clear y0 y1 yl yf
  have h3 : Hid (P8 g k L ⟨a0, a1, a2, a3, p0, p1, p2, p3⟩ w _ A4 n4 c4 N4 (bitsF (headF L))) := Lib.hid (by have h := H3.out; rw [HBL.out, List.nil_append] at h; exact h)
  clear H3 HBL HF
  go_loopw [5] (fun cc wr => ∃ (i n cp N : Nat) (A : Option Addr), i ≤ L.secs.length ∧ cc = .int .i64 i ∧ Hid (P8 g k L ⟨a0, a1, a2, a3, p0, p1, p2, p3⟩ w wr A n cp N (bitsF (headF L ++ (L.secs.take i).flatMap secF)))) (fun cc _ => L.secs.length - (intOf cc).toNat)
  case atStart => exact ⟨0, _, _, _, _, Nat.zero_le _, rfl, by simpa using h3⟩
  case round =>
    obtain ⟨i, n, cp, N, A, hi, rfl, H⟩ := hrel
    clear h3
    obtain ⟨x0, x1, x2, x3, x4, x5, x6, x7, x8, x9, x10⟩ := H.out.lx.cells
    dsimp only at x0 x1 x2 x3
    have xl := H.out.lx.1
    by_cases hlt : i < L.secs.length
    · have hii : (i : Int) < (L.secs.length : Int) := by omega
      obtain ⟨c, hc⟩ : ∃ c, L.secs[i]? = some c := ⟨_, List.getElem?_eq_getElem hlt⟩
      obtain ⟨eb, eo, ea, hrow0⟩ := HLA.out.secs.get (j := i) hlt
      dsimp only at ea
      subst ea
      have hrow : RowAt' wr 11 Sec.enc eb eo L.secs := hrow0.below (by have h := HG.out; rw [← h]; exact H.out.below)
      have HCR := Lib.hid (show rightT c = true by
        have h := ((right_iff L).1 HRL.out).2.2.1
        rw [List.all_eq_true] at h
        exact h c (List.mem_of_getElem? hc))
      have HC := Lib.hid hc
      obtain ⟨bl, hbl⟩ : ∃ bl, bl = bitsF (headF L ++ (L.secs.take i).flatMap secF) := ⟨_, rfl⟩
      rw [← hbl] at H
      have HL := Lib.hid (show bl.length ≤ 1600 by rw [hbl]; exact pre_len HRL.out ((List.prefix_append _ _).trans (fp1 L hc)))
      have HBL := Lib.hid hbl
      clear hbl
      have x0b : ∀ V, ClB wr V → V.cell? ⟨g, 0, none⟩ = some (.slice (some ⟨eb, eo, none⟩) L.secs.length p0) := fun V h => (H.out.next h).lx.cells.1
      have zb := fun V (h : ClB wr V) => sec_cells (hrow.below h) HC.out
      have c0b : ∀ V, ClB wr V → V.cell? ⟨k, 0, none⟩ = some (.slice A n cp) := fun V h => by have q := (H.out.next h).bx; simp [World.cell?, q]
      have c1b : ∀ V, ClB wr V → V.cell? ⟨k, 1, none⟩ = some (.int .i64 (N : Nat)) := fun V h => by have q := (H.out.next h).bx; simp [World.cell?, q]
      have HV0 := Lib.hid (show BitsV wr (.agg #[.slice A n cp, .int .i64 (N : Nat)]) bl from H.out.bv)
      clear hc hrow0 hrow
      go_upto_region 8 with fail
      clear x0 x1 x2 x3 x4 x5 x6 x7 x8 x9 x10 xl
      refine (wpIn_wide (n := 5)).1 (wpIn_region_rel_head (.inl rfl) 7 [([(4, none)], none), ([(1, none)], none), ([(42, some 0)], none), ([(5, none)], none), ([(43, some 1), (44, some 0)], none), ([(45, some 0)], none), ([(41, some 5), (46, some 0)], none)] [(0, 47)] (by kernel_rfl) (by kernel_rfl) (by kernel_rfl) (by kernel_rfl) (by kernel_rfl) (by kernel_rfl) (by kernel_rfl) (by kernel_rfl) ?_)
      simp only [List.take_succ_cons, List.take_zero, List.drop_succ_cons, List.drop_zero]
      refine ob_det (c := .agg #[.slice A n cp, .int .i64 (N : Nat)]) ?_ ?_
      · intro ρ W hk hC
        simp only [seen, obOp]
        rintro h4
        replace h4 : ρ (.tmp 4) = .pointer (some ⟨k, 0, none⟩) := h4.trans rfl
        exact rel_value (by simp [go_sem, h4, c0b W hC, c1b W hC]) hC
      refine ob_det (c := .pointer (some ⟨g, 0, none⟩)) ?_ ?_
      · intro ρ W hk hC
        simp only [seen, obOp]
        rintro h1
        replace h1 : ρ (.tmp 1) = .pointer (some ⟨g, 0, none⟩) := h1.trans rfl
        exact rel_value (by simp [go_sem, h1]) hC
      refine ob_det (c := .slice (some ⟨eb, eo, none⟩) L.secs.length p0) ?_ ?_
      · intro ρ W hk hC
        simp only [seen, obOp, List.getD_cons_zero]
        rintro h42
        exact rel_value (by simp [go_sem, h42, x0b W hC]) hC
      refine ob_det (c := .int .i64 (i : Nat)) ?_ ?_
      · intro ρ W hk hC
        simp only [seen, obOp]
        rintro h5
        replace h5 : ρ (.tmp 5) = .int .i64 (i : Nat) := h5.trans rfl
        exact rel_value (by simp [go_sem, h5]) hC
      refine ob_det (c := .pointer (some ⟨eb, eo + i * 11, none⟩)) ?_ ?_
      · intro ρ W hk hC
        simp only [seen, obOp, List.getD_cons_zero, List.getD_cons_succ]
        rintro h43 h44
        exact rel_value (by simp [go_sem, h43, h44, hii]) hC
      refine ob_det (c := .agg #[.int .u8 c.k, .int .i64 c.s0, .int .i64 c.p0, .int .i64 c.s1, .int .i64 c.p1, .int .i64 c.s2, .int .i64 c.p2, .int .i64 c.s3, .int .i64 c.p3, .int .i64 c.c0, .int .i64 c.c1]) ?_ ?_
      · intro ρ W hk hC
        simp only [seen, obOp, List.getD_cons_zero]
        rintro h45
        exact rel_value (by simp [go_sem, h45, (zb W hC).1, (zb W hC).2.1, (zb W hC).2.2.1, (zb W hC).2.2.2.1, (zb W hC).2.2.2.2.1, (zb W hC).2.2.2.2.2.1, (zb W hC).2.2.2.2.2.2.1, (zb W hC).2.2.2.2.2.2.2.1, (zb W hC).2.2.2.2.2.2.2.2.1, (zb W hC).2.2.2.2.2.2.2.2.2.1, (zb W hC).2.2.2.2.2.2.2.2.2.2]) hC
      refine ⟨fun v w' => BitsV w' v (bl ++ bitsF (secF c)), fun _ _ _ h k => h.below k, ?_, ?_⟩
      · intro ρ W hk hC
        simp only [seen, obOp, List.getD_cons_zero, List.getD_cons_succ]
        rintro h41 h46
        refine rel_enter (f := 28) (args := #[.agg #[.slice A n cp, .int .i64 (N : Nat)], .agg #[.int .u8 c.k, .int .i64 c.s0, .int .i64 c.p0, .int .i64 c.s1, .int .i64 c.p1, .int .i64 c.s2, .int .i64 c.p2, .int .i64 c.s3, .int .i64 c.p3, .int .i64 c.c0, .int .i64 c.c1]]) (by simp [go_sem, h41, h46, hk.func]) ((section8_any (.agg #[.slice A n cp, .int .i64 (N : Nat)]) bl c W (HV0.out.below hC) HCR.out (by have := HL.out; omega)).mono ?_)
        rintro e w9 ⟨v, rfl, hb, b9⟩
        exact ⟨_, rfl, hC.step b9, b9, hb⟩
      intro vs w5 hC5
      simp only [endSeen, List.getD_cons_zero]
      intro hT
      simp only [writeAll, List.setIfInBounds_toArray, List.set_cons_zero, List.set_cons_succ]
      obtain ⟨A4, n4, c4, N4, h40, e4, m4, o4⟩ := hT
      rw [show vs 47 = _ from h40]
      have s5 := H.out.next hC5
      have y0 : w5.cell? ⟨k, 0, none⟩ = some (.slice A n cp) := by simp [World.cell?, s5.bx]
      have y1 : w5.cell? ⟨k, 1, none⟩ = some (.int .i64 (N : Nat)) := by simp [World.cell?, s5.bx]
      have yl := (Array.getElem?_eq_some_iff.1 s5.bx).1
      have yf : ∀ o, w5.frozen? ⟨k, o, none⟩ = false := fun o => frozen_of_row _ _ _ _ _ s5.bx
      have H5 := Lib.hid (s5.put ⟨A4, n4, c4, N4, rfl, e4, m4, o4⟩)
      clear x0b zb HV0
      clear s5 e4 m4 o4 h40 hC5 c0b c1b H
      gi_wp2
      go_wp2_with fail
      clear y0 y1 yl yf
      go_roundw
      case measure => simp [intOf]; omega
      case rel => exact ⟨i + 1, n4, c4, N4, A4, by omega, by go_num, by rw [flat_take secF HC.out, ← List.append_assoc, bitsF_append, ← HBL.out]; exact H5⟩
    · obtain rfl : i = L.secs.length := by omega
      have hii : ¬ ((L.secs.length : Nat) : Int) < (L.secs.length : Int) := by omega
      rw [List.take_length] at H
      go_wp2_with fail
      clear x0 x1 x2 x3 x4 x5 x6 x7 x8 x9 x10 xl
      have HS0 := H
      clear H
      go_loopw [6] (fun cc wr => ∃ (i n cp N : Nat) (A : Option Addr), i ≤ L.sigs.length ∧ cc = .int .i64 i ∧ Hid (P8 g k L ⟨a0, a1, a2, a3, p0, p1, p2, p3⟩ w wr A n cp N (bitsF ((headF L ++ L.secs.flatMap secF) ++ (L.sigs.take i).flatMap sigF)))) (fun cc _ => L.sigs.length - (intOf cc).toNat)
      case atStart => exact ⟨0, _, _, _, _, Nat.zero_le _, rfl, by simpa using HS0⟩
      case round =>
        obtain ⟨i, n, cp, N, A, hi, rfl, H⟩ := hrel
        clear HS0
        obtain ⟨x0, x1, x2, x3, x4, x5, x6, x7, x8, x9, x10⟩ := H.out.lx.cells
        dsimp only at x0 x1 x2 x3
        have xl := H.out.lx.1
        by_cases hlt : i < L.sigs.length
        · have hii : (i : Int) < (L.sigs.length : Int) := by omega
          obtain ⟨x, hx⟩ : ∃ x, L.sigs[i]? = some x := ⟨_, List.getElem?_eq_getElem hlt⟩
          obtain ⟨eb, eo, ea, hrow0⟩ := HLA.out.sigs.get (j := i) hlt
          dsimp only at ea
          subst ea
          have hrow : RowAt' wr 2 Prt.enc eb eo L.sigs := hrow0.below (by have h := HG.out; rw [← h]; exact H.out.below)
          have HF := Lib.hid (show fitF (x.s, 5) ∧ fitF (x.p, 2) by
            have h := pre_fit HRL.out (fp2 L hx)
            exact ⟨h _ (by simp [sigF]), h _ (by simp [sigF])⟩)
          have HC := Lib.hid hx
          obtain ⟨bl, hbl⟩ : ∃ bl, bl = bitsF ((headF L ++ L.secs.flatMap secF) ++ (L.sigs.take i).flatMap sigF) := ⟨_, rfl⟩
          rw [← hbl] at H
          have HL := Lib.hid (show bl.length ≤ 1600 by rw [hbl]; exact pre_len HRL.out ((List.prefix_append _ _).trans (fp2 L hx)))
          have HBL := Lib.hid hbl
          clear hbl
          have x0b : ∀ V, ClB wr V → V.cell? ⟨g, 1, none⟩ = some (.slice (some ⟨eb, eo, none⟩) L.sigs.length p1) := fun V h => (H.out.next h).lx.cells.2.1
          have z0b : ∀ V, ClB wr V → V.cell? ⟨eb, eo + i * 2, none⟩ = some (.int .i64 x.s) := fun V h => (hrow.below h).2 i x hx 0 _ rfl
          have z1b : ∀ V, ClB wr V → V.cell? ⟨eb, eo + i * 2 + 1, none⟩ = some (.int .i64 x.p) := fun V h => (hrow.below h).2 i x hx 1 _ rfl
          have c0b : ∀ V, ClB wr V → V.cell? ⟨k, 0, none⟩ = some (.slice A n cp) := fun V h => by have q := (H.out.next h).bx; simp [World.cell?, q]
          have c1b : ∀ V, ClB wr V → V.cell? ⟨k, 1, none⟩ = some (.int .i64 (N : Nat)) := fun V h => by have q := (H.out.next h).bx; simp [World.cell?, q]
          have HV := Lib.hid (show BitsV wr (.agg #[.slice A n cp, .int .i64 (N : Nat)]) (bl ++ bitsF []) by simpa [bitsF] using H.out.bv)
          clear hx hrow0 hrow
          go_upto_region 12 with fail
          clear x0 x1 x2 x3 x4 x5 x6 x7 x8 x9 x10 xl
          refine (wpIn_wide (n := 5)).1 (wpIn_region_rel_head (.inl rfl) 17 [([(4, none)], none), ([(1, none)], none), ([(56, some 0)], none), ([(6, none)], none), ([(57, some 1), (58, some 0)], none), ([(59, some 0)], none), ([(60, some 0)], none), ([(61, some 0)], none), ([(55, some 7), (62, some 0)], none), ([(1, none)], none), ([(64, some 0)], none), ([(6, none)], none), ([(65, some 1), (66, some 0)], none), ([(67, some 0)], none), ([(68, some 0)], none), ([(69, some 0)], none), ([(63, some 7), (70, some 0)], none)] [(0, 71)] (by kernel_rfl) (by kernel_rfl) (by kernel_rfl) (by kernel_rfl) (by kernel_rfl) (by kernel_rfl) (by kernel_rfl) (by kernel_rfl) ?_)
          simp only [List.take_succ_cons, List.take_zero, List.drop_succ_cons, List.drop_zero]
          refine ob_det (c := .agg #[.slice A n cp, .int .i64 (N : Nat)]) ?_ ?_
          · intro ρ W hk hC
            simp only [seen, obOp]
            rintro h4
            replace h4 : ρ (.tmp 4) = .pointer (some ⟨k, 0, none⟩) := h4.trans rfl
            exact rel_value (by simp [go_sem, h4, c0b W hC, c1b W hC]) hC
          refine ob_det (c := .pointer (some ⟨g, 1, none⟩)) ?_ ?_
          · intro ρ W hk hC
            simp only [seen, obOp]
            rintro h1
            replace h1 : ρ (.tmp 1) = .pointer (some ⟨g, 0, none⟩) := h1.trans rfl
            exact rel_value (by simp [go_sem, h1]) hC
          refine ob_det (c := .slice (some ⟨eb, eo, none⟩) L.sigs.length p1) ?_ ?_
          · intro ρ W hk hC
            simp only [seen, obOp, List.getD_cons_zero]
            rintro h56
            exact rel_value (by simp [go_sem, h56, x0b W hC]) hC
          refine ob_det (c := .int .i64 (i : Nat)) ?_ ?_
          · intro ρ W hk hC
            simp only [seen, obOp]
            rintro h6
            replace h6 : ρ (.tmp 6) = .int .i64 (i : Nat) := h6.trans rfl
            exact rel_value (by simp [go_sem, h6]) hC
          refine ob_det (c := .pointer (some ⟨eb, eo + i * 2, none⟩)) ?_ ?_
          · intro ρ W hk hC
            simp only [seen, obOp, List.getD_cons_zero, List.getD_cons_succ]
            rintro h57 h58
            exact rel_value (by simp [go_sem, h57, h58, hii]) hC
          refine ob_det (c := .pointer (some ⟨eb, eo + i * 2, none⟩)) ?_ ?_
          · intro ρ W hk hC
            simp only [seen, obOp, List.getD_cons_zero]
            rintro h59
            exact rel_value (by simp [go_sem, h59]) hC
          refine ob_det (c := .pointer (some ⟨eb, eo + i * 2, none⟩)) ?_ ?_
          · intro ρ W hk hC
            simp only [seen, obOp, List.getD_cons_zero]
            rintro h60
            exact rel_value (by simp [go_sem, h60]) hC
          refine ob_det (c := .int .i64 x.s) ?_ ?_
          · intro ρ W hk hC
            simp only [seen, obOp, List.getD_cons_zero]
            rintro h61
            exact rel_value (by simp [go_sem, h61, z0b W hC]) hC
          refine ⟨fun v w' => BitsV w' v (bl ++ bitsF [(x.s, 5)]), fun _ _ _ h k => h.below k, ?_, ?_⟩
          · intro ρ W hk hC
            simp only [seen, obOp, List.getD_cons_zero, List.getD_cons_succ]
            rintro h55 h62
            refine rel_enter (f := 27) (args := #[.agg #[.slice A n cp, .int .i64 (N : Nat)], .int .i64 (x.s), .int .i64 5]) (by simp [go_sem, h55, h62, hk.const, hk.func]) ((put8_next (fs := []) (x.s) 5 (HV.out.below hC) HF.out.1 (by have := HL.out; simp [widF]; omega)).mono ?_)
            rintro e w9 ⟨v, rfl, hb, b9⟩
            exact ⟨_, rfl, hC.step b9, b9, hb⟩
          refine ob_det (c := .pointer (some ⟨g, 1, none⟩)) ?_ ?_
          · intro ρ W hk hC
            simp only [seen, obOp]
            rintro h1
            replace h1 : ρ (.tmp 1) = .pointer (some ⟨g, 0, none⟩) := h1.trans rfl
            exact rel_value (by simp [go_sem, h1]) hC
          refine ob_det (c := .slice (some ⟨eb, eo, none⟩) L.sigs.length p1) ?_ ?_
          · intro ρ W hk hC
            simp only [seen, obOp, List.getD_cons_zero]
            rintro h64
            exact rel_value (by simp [go_sem, h64, x0b W hC]) hC
          refine ob_det (c := .int .i64 (i : Nat)) ?_ ?_
          · intro ρ W hk hC
            simp only [seen, obOp]
            rintro h6
            replace h6 : ρ (.tmp 6) = .int .i64 (i : Nat) := h6.trans rfl
            exact rel_value (by simp [go_sem, h6]) hC
          refine ob_det (c := .pointer (some ⟨eb, eo + i * 2, none⟩)) ?_ ?_
          · intro ρ W hk hC
            simp only [seen, obOp, List.getD_cons_zero, List.getD_cons_succ]
            rintro h65 h66
            exact rel_value (by simp [go_sem, h65, h66, hii]) hC
          refine ob_det (c := .pointer (some ⟨eb, eo + i * 2, none⟩)) ?_ ?_
          · intro ρ W hk hC
            simp only [seen, obOp, List.getD_cons_zero]
            rintro h67
            exact rel_value (by simp [go_sem, h67]) hC
          refine ob_det (c := .pointer (some ⟨eb, eo + i * 2 + 1, none⟩)) ?_ ?_
          · intro ρ W hk hC
            simp only [seen, obOp, List.getD_cons_zero]
            rintro h68
            exact rel_value (by simp [go_sem, h68]) hC
          refine ob_det (c := .int .i64 x.p) ?_ ?_
          · intro ρ W hk hC
            simp only [seen, obOp, List.getD_cons_zero]
            rintro h69
            exact rel_value (by simp [go_sem, h69, z1b W hC]) hC
          refine ⟨fun v w' => BitsV w' v (bl ++ bitsF [(x.s, 5), (x.p, 2)]), fun _ _ _ h k => h.below k, ?_, ?_⟩
          · intro ρ W hk hC
            simp only [seen, obOp, List.getD_cons_zero, List.getD_cons_succ]
            rintro ⟨A63, n63, c63, N63, h63, e63, m63, o63⟩ h70
            refine rel_enter (f := 27) (args := #[.agg #[.slice A63 n63 c63, .int .i64 (N63 : Nat)], .int .i64 (x.p), .int .i64 2]) (by simp [go_sem, h63, h70, hk.const, hk.func]) ((put8_next (fs := [(x.s, 5)]) (x.p) 2 (show BitsV W _ (bl ++ bitsF [(x.s, 5)]) from ⟨A63, n63, c63, N63, rfl, e63, m63, o63⟩) HF.out.2 (by have := HL.out; simp [widF]; omega)).mono ?_)
            rintro e w9 ⟨v, rfl, hb, b9⟩
            exact ⟨_, rfl, hC.step b9, b9, hb⟩
          intro vs w5 hC5
          simp only [endSeen, List.getD_cons_zero]
          intro hT
          simp only [writeAll, List.setIfInBounds_toArray, List.set_cons_zero, List.set_cons_succ]
          obtain ⟨A4, n4, c4, N4, h40, e4, m4, o4⟩ := hT
          rw [show vs 71 = _ from h40]
          have s5 := H.out.next hC5
          have y0 : w5.cell? ⟨k, 0, none⟩ = some (.slice A n cp) := by simp [World.cell?, s5.bx]
          have y1 : w5.cell? ⟨k, 1, none⟩ = some (.int .i64 (N : Nat)) := by simp [World.cell?, s5.bx]
          have yl := (Array.getElem?_eq_some_iff.1 s5.bx).1
          have yf : ∀ o, w5.frozen? ⟨k, o, none⟩ = false := fun o => frozen_of_row _ _ _ _ _ s5.bx
          have H5 := Lib.hid (s5.put ⟨A4, n4, c4, N4, rfl, e4, m4, o4⟩)
          clear x0b z0b z1b HV
          clear s5 e4 m4 o4 h40 hC5 c0b c1b H
          gi_wp2
          go_wp2_with fail
          clear y0 y1 yl yf
          go_roundw
          case measure => simp [intOf]; omega
          case rel => exact ⟨i + 1, n4, c4, N4, A4, by omega, by go_num, by rw [flat_take sigF HC.out, ← List.append_assoc, bitsF_append, ← HBL.out]; exact H5⟩
        · obtain rfl : i = L.sigs.length := by omega
          have hii : ¬ ((L.sigs.length : Nat) : Int) < (L.sigs.length : Int) := by omega
          rw [List.take_length] at H
          go_wp2_with fail
          clear x0 x1 x2 x3 x4 x5 x6 x7 x8 x9 x10 xl
          have HS1 := H
          clear H
          go_loopw [7] (fun cc wr => ∃ (i n cp N : Nat) (A : Option Addr), i ≤ L.exits.length ∧ cc = .int .i64 i ∧ Hid (P8 g k L ⟨a0, a1, a2, a3, p0, p1, p2, p3⟩ w wr A n cp N (bitsF (((headF L ++ L.secs.flatMap secF) ++ L.sigs.flatMap sigF) ++ (L.exits.take i).flatMap exF)))) (fun cc _ => L.exits.length - (intOf cc).toNat)
          case atStart => exact ⟨0, _, _, _, _, Nat.zero_le _, rfl, by simpa using HS1⟩
          case round =>
            obtain ⟨i, n, cp, N, A, hi, rfl, H⟩ := hrel
            clear HS1
            obtain ⟨x0, x1, x2, x3, x4, x5, x6, x7, x8, x9, x10⟩ := H.out.lx.cells
            dsimp only at x0 x1 x2 x3
            have xl := H.out.lx.1
            by_cases hlt : i < L.exits.length
            · have hii : (i : Int) < (L.exits.length : Int) := by omega
              obtain ⟨es, hes, hAt, hov⟩ := HLA.out.exits
              have hel : es.length = L.exits.length := by rw [← hes, List.length_map]
              obtain ⟨eb, eo, ea, hrow0⟩ := hAt.get (j := i) (by omega)
              dsimp only at ea
              subst ea
              have hbw : Below w.heap.size w wr := by have h := HG.out; rw [← h]; exact H.out.below
              obtain ⟨x, hx⟩ : ∃ x, es[i]? = some x := ⟨_, List.getElem?_eq_getElem (by omega)⟩
              have hxL : L.exits[i]? = some x.1 := by rw [← hes, List.getElem?_map, hx]; rfl
              obtain ⟨vA, vc, ve, hvl, hvm, hva⟩ := hov x (List.mem_of_getElem? hx)
              obtain ⟨ol, hol⟩ : ∃ ol, ol = x.1.over.length := ⟨_, rfl⟩
              rw [← hol] at ve hvl
              have hol2 : ol ≤ 2 := by
                have h := ((right_iff L).1 HRL.out).2.2.2.2.2.2.2 x.1 (List.mem_of_getElem? hxL)
                unfold overT at h
                simp only [Bool.and_eq_true, decide_eq_true_eq] at h
                rw [hol]
                exact h.1
              have hrow := hrow0.below hbw
              have lr := hrow.1
              have z0 : wr.cell? ⟨eb, eo + i * 3, none⟩ = some (.int .i64 x.1.s) := hrow.2 i x hx 0 _ rfl
              have z1 : wr.cell? ⟨eb, eo + i * 3 + 1, none⟩ = some (.int .i64 x.1.p) := hrow.2 i x hx 1 _ rfl
              have z2 : wr.cell? ⟨eb, eo + i * 3 + 2, none⟩ = some (.slice vA ol vc) := hrow.2 i x hx 2 _ (by rw [← ve]; rfl)
              have hex : exF x.1 = [(x.1.s, 5), (x.1.p, 2), (((ol : Nat) : Int), 2)] ++ x.1.over.flatMap stF := by rw [hol]; rfl
              have HF := Lib.hid (show fitF (x.1.s, 5) ∧ fitF (x.1.p, 2) ∧ fitF (((ol : Nat) : Int), 2) by
                have h := pre_fit HRL.out (fp3 L hxL)
                rw [hex] at h
                exact ⟨h _ (by simp), h _ (by simp), h _ (by simp)⟩)
              have HC := Lib.hid (⟨hxL, hex, hol, hva.below hbw, fp3 L hxL⟩ : _ ∧ _ ∧ _ ∧ At wr 3 Stp.enc vA x.1.over ∧ _)
              obtain ⟨bl, hbl⟩ : ∃ bl, bl = bitsF (((headF L ++ L.secs.flatMap secF) ++ L.sigs.flatMap sigF) ++ (L.exits.take i).flatMap exF) := ⟨_, rfl⟩
              rw [← hbl] at H
              have HL := Lib.hid (show bl.length ≤ 1600 by rw [hbl]; exact pre_len HRL.out ((List.prefix_append _ _).trans (fp3 L hxL)))
              have HBL := Lib.hid hbl
              clear hbl
              obtain ⟨q, hq⟩ : ∃ q, q = wr.heap.size := ⟨_, rfl⟩
              obtain ⟨Y, hY⟩ : ∃ Y, Y = wr.alloc (.cells #[.int .i64 x.1.s, .int .i64 x.1.p, .slice vA ol vc] 51) := ⟨_, rfl⟩
              have hYb : Below wr.heap.size wr Y := by rw [hY]; exact bself
              have hYq : Y.heap[q]? = some (.cells #[.int .i64 x.1.s, .int .i64 x.1.p, .slice vA ol vc] 51 (0, 0)) := by rw [hY, hq]; exact World.alloc_heap_new _ _
              have hkq : k < q ∧ g < q := by rw [hq]; exact ⟨(Array.getElem?_eq_some_iff.1 H.out.bx).1, H.out.lx.1⟩
              have HY := Lib.hid (H.out.next hYb)
              have HQ := Lib.hid (⟨hYq, hkq.1, hkq.2, HC.out.2.2.2.1.below hYb⟩ : _ ∧ _ ∧ _ ∧ At Y 3 Stp.enc vA x.1.over)
              have HVA := Lib.hid hva
              clear hes hAt hov hel hx hxL hva hrow0 hrow hex hol ve hvl hvm hYb hYq hkq H hbw
              go_upto_region 17 with fail
              rw [← hY]
              rw [← hq]
              clear hY hq lr z0 z1 z2 x0 x1 x2 x3 x4 x5 x6 x7 x8 x9 x10 xl
              have q0b : ∀ V, ClB Y V → V.cell? ⟨q, 0, none⟩ = some (.int .i64 x.1.s) := fun V h => by
                have e := (h.block q (Array.getElem?_eq_some_iff.1 HQ.out.1).1).trans HQ.out.1
                simp [World.cell?, e]
              have q1b : ∀ V, ClB Y V → V.cell? ⟨q, 1, none⟩ = some (.int .i64 x.1.p) := fun V h => by
                have e := (h.block q (Array.getElem?_eq_some_iff.1 HQ.out.1).1).trans HQ.out.1
                simp [World.cell?, e]
              have q2b : ∀ V, ClB Y V → V.cell? ⟨q, 2, none⟩ = some (.slice vA ol vc) := fun V h => by
                have e := (h.block q (Array.getElem?_eq_some_iff.1 HQ.out.1).1).trans HQ.out.1
                simp [World.cell?, e]
              have c0b : ∀ V, ClB Y V → V.cell? ⟨k, 0, none⟩ = some (.slice A n cp) := fun V h => by have q := (HY.out.next h).bx; simp [World.cell?, q]
              have c1b : ∀ V, ClB Y V → V.cell? ⟨k, 1, none⟩ = some (.int .i64 (N : Nat)) := fun V h => by have q := (HY.out.next h).bx; simp [World.cell?, q]
              have HV := Lib.hid (show BitsV Y (.agg #[.slice A n cp, .int .i64 (N : Nat)]) (bl ++ bitsF []) by simpa [bitsF] using HY.out.bv)
              refine (wpIn_wide (n := 5)).1 (wpIn_region_rel_head (.inl rfl) 13 [([(4, none)], none), ([(8, none)], none), ([(85, some 0)], none), ([(86, some 0)], none), ([(84, some 3), (87, some 0)], none), ([(8, none)], none), ([(89, some 0)], none), ([(90, some 0)], none), ([(88, some 3), (91, some 0)], none), ([(8, none)], none), ([(93, some 0)], none), ([(94, some 0)], none), ([(92, some 3), (95, some 0)], none)] [(0, 96)] (by kernel_rfl) (by kernel_rfl) (by kernel_rfl) (by kernel_rfl) (by kernel_rfl) (by kernel_rfl) (by kernel_rfl) (by kernel_rfl) ?_)
              simp only [List.take_succ_cons, List.take_zero, List.drop_succ_cons, List.drop_zero]
              refine ob_det (c := .agg #[.slice A n cp, .int .i64 (N : Nat)]) ?_ ?_
              · intro ρ W hk hC
                simp only [seen, obOp]
                rintro h4
                replace h4 : ρ (.tmp 4) = .pointer (some ⟨k, 0, none⟩) := h4.trans rfl
                exact rel_value (by simp [go_sem, h4, c0b W hC, c1b W hC]) hC
              refine ob_det (c := .pointer (some ⟨q, 0, none⟩)) ?_ ?_
              · intro ρ W hk hC
                simp only [seen, obOp]
                rintro h8
                replace h8 : ρ (.tmp 8) = .pointer (some ⟨q, 0, none⟩) := h8.trans rfl
                exact rel_value (by simp [go_sem, h8]) hC
              refine ob_det (c := .pointer (some ⟨q, 0, none⟩)) ?_ ?_
              · intro ρ W hk hC
                simp only [seen, obOp, List.getD_cons_zero]
                rintro h85
                exact rel_value (by simp [go_sem, h85]) hC
              refine ob_det (c := .int .i64 x.1.s) ?_ ?_
              · intro ρ W hk hC
                simp only [seen, obOp, List.getD_cons_zero]
                rintro h86
                exact rel_value (by simp [go_sem, h86, q0b W hC]) hC
              refine ⟨fun v w' => BitsV w' v (bl ++ bitsF [(x.1.s, 5)]), fun _ _ _ h k => h.below k, ?_, ?_⟩
              · intro ρ W hk hC
                simp only [seen, obOp, List.getD_cons_zero, List.getD_cons_succ]
                rintro h84 h87
                refine rel_enter (f := 27) (args := #[.agg #[.slice A n cp, .int .i64 (N : Nat)], .int .i64 (x.1.s), .int .i64 5]) (by simp [go_sem, h84, h87, hk.const, hk.func]) ((put8_next (fs := []) (x.1.s) 5 (HV.out.below hC) HF.out.1 (by have := HL.out; simp [widF]; omega)).mono ?_)
                rintro e w9 ⟨v, rfl, hb, b9⟩
                exact ⟨_, rfl, hC.step b9, b9, hb⟩
              refine ob_det (c := .pointer (some ⟨q, 0, none⟩)) ?_ ?_
              · intro ρ W hk hC
                simp only [seen, obOp]
                rintro h8
                replace h8 : ρ (.tmp 8) = .pointer (some ⟨q, 0, none⟩) := h8.trans rfl
                exact rel_value (by simp [go_sem, h8]) hC
              refine ob_det (c := .pointer (some ⟨q, 1, none⟩)) ?_ ?_
              · intro ρ W hk hC
                simp only [seen, obOp, List.getD_cons_zero]
                rintro h89
                exact rel_value (by simp [go_sem, h89]) hC
              refine ob_det (c := .int .i64 x.1.p) ?_ ?_
              · intro ρ W hk hC
                simp only [seen, obOp, List.getD_cons_zero]
                rintro h90
                exact rel_value (by simp [go_sem, h90, q1b W hC]) hC
              refine ⟨fun v w' => BitsV w' v (bl ++ bitsF [(x.1.s, 5), (x.1.p, 2)]), fun _ _ _ h k => h.below k, ?_, ?_⟩
              · intro ρ W hk hC
                simp only [seen, obOp, List.getD_cons_zero, List.getD_cons_succ]
                rintro ⟨A88, n88, c88, N88, h88, e88, m88, o88⟩ h91
                refine rel_enter (f := 27) (args := #[.agg #[.slice A88 n88 c88, .int .i64 (N88 : Nat)], .int .i64 (x.1.p), .int .i64 2]) (by simp [go_sem, h88, h91, hk.const, hk.func]) ((put8_next (fs := [(x.1.s, 5)]) (x.1.p) 2 (show BitsV W _ (bl ++ bitsF [(x.1.s, 5)]) from ⟨A88, n88, c88, N88, rfl, e88, m88, o88⟩) HF.out.2.1 (by have := HL.out; simp [widF]; omega)).mono ?_)
                rintro e w9 ⟨v, rfl, hb, b9⟩
                exact ⟨_, rfl, hC.step b9, b9, hb⟩
              refine ob_det (c := .pointer (some ⟨q, 2, none⟩)) ?_ ?_
              · intro ρ W hk hC
                simp only [seen, obOp]
                rintro h8
                replace h8 : ρ (.tmp 8) = .pointer (some ⟨q, 0, none⟩) := h8.trans rfl
                exact rel_value (by simp [go_sem, h8]) hC
              refine ob_det (c := .slice vA ol vc) ?_ ?_
              · intro ρ W hk hC
                simp only [seen, obOp, List.getD_cons_zero]
                rintro h93
                exact rel_value (by simp [go_sem, h93, q2b W hC]) hC
              refine ob_det (c := .int .i64 (ol : Nat)) ?_ ?_
              · intro ρ W hk hC
                simp only [seen, obOp, List.getD_cons_zero]
                rintro h94
                exact rel_value (by simp [go_sem, h94]) hC
              refine ⟨fun v w' => BitsV w' v (bl ++ bitsF [(x.1.s, 5), (x.1.p, 2), (((ol : Nat) : Int), 2)]), fun _ _ _ h k => h.below k, ?_, ?_⟩
              · intro ρ W hk hC
                simp only [seen, obOp, List.getD_cons_zero, List.getD_cons_succ]
                rintro ⟨A92, n92, c92, N92, h92, e92, m92, o92⟩ h95
                refine rel_enter (f := 27) (args := #[.agg #[.slice A92 n92 c92, .int .i64 (N92 : Nat)], .int .i64 ((ol : Nat) : Int), .int .i64 2]) (by simp [go_sem, h92, h95, hk.const, hk.func]) ((put8_next (fs := [(x.1.s, 5), (x.1.p, 2)]) (((ol : Nat) : Int)) 2 (show BitsV W _ (bl ++ bitsF [(x.1.s, 5), (x.1.p, 2)]) from ⟨A92, n92, c92, N92, rfl, e92, m92, o92⟩) HF.out.2.2 (by have := HL.out; simp [widF]; omega)).mono ?_)
                rintro e w9 ⟨v, rfl, hb, b9⟩
                exact ⟨_, rfl, hC.step b9, b9, hb⟩
              intro vs w5 hC5
              simp only [endSeen, List.getD_cons_zero]
              intro hT
              simp only [writeAll, List.setIfInBounds_toArray, List.set_cons_zero, List.set_cons_succ]
              obtain ⟨A4, n4, c4, N4, h40, e4, m4, o4⟩ := hT
              rw [show vs 96 = _ from h40]
              have s5 := HY.out.next hC5
              have y0 : w5.cell? ⟨k, 0, none⟩ = some (.slice A n cp) := by simp [World.cell?, s5.bx]
              have y1 : w5.cell? ⟨k, 1, none⟩ = some (.int .i64 (N : Nat)) := by simp [World.cell?, s5.bx]
              have yl := (Array.getElem?_eq_some_iff.1 s5.bx).1
              have yf : ∀ o, w5.frozen? ⟨k, o, none⟩ = false := fun o => frozen_of_row _ _ _ _ _ s5.bx
              have H5 := Lib.hid (s5.put ⟨A4, n4, c4, N4, rfl, e4, m4, o4⟩)
              have hq5 := (hC5.block q (Array.getElem?_eq_some_iff.1 HQ.out.1).1).trans HQ.out.1
              have ha5 := HQ.out.2.2.2.below hC5
              clear q0b q1b q2b HV
              clear s5 e4 m4 o4 h40 hC5 c0b c1b HY
              gi_wp2
              go_wp2_with fail
              clear y0 y1 yl yf
              have hbx : ((w5.setCell ⟨k, 0, none⟩ (.slice A4 n4 c4)).setCell ⟨k, 1, none⟩ (.int .i64 (N4 : Nat))).heap[q]? = some (.cells #[.int .i64 x.1.s, .int .i64 x.1.p, .slice vA ol vc] 51 (0, 0)) := by
                have h1 := HQ.out.2.1
                rw [Below.heap_setCell _ _ _ _ (show q ≠ k by omega), Below.heap_setCell _ _ _ _ (show q ≠ k by omega)]
                exact hq5
              have HQ5 := Lib.hid hbx
              clear hq5 ha5 hbx
              go_loopw [9] (fun cc wr => ∃ (j n cp N : Nat) (A : Option Addr), j ≤ ol ∧ cc = .int .i64 j ∧ Hid (P8 g k L ⟨a0, a1, some ⟨eb, eo, none⟩, a3, p0, p1, p2, p3⟩ w wr A n cp N (bl ++ bitsF ([(x.1.s, 5), (x.1.p, 2), (((ol : Nat) : Int), 2)] ++ (x.1.over.take j).flatMap stF))) ∧ Hid (wr.heap[q]? = some (.cells #[.int .i64 x.1.s, .int .i64 x.1.p, .slice vA ol vc] 51 (0, 0)))) (fun cc _ => ol - (intOf cc).toNat)
              case atStart => exact ⟨0, _, _, _, _, Nat.zero_le _, rfl, by simpa using H5, HQ5⟩
              case round =>
                obtain ⟨j, n, cp, N, A, hj, rfl, H, HB⟩ := hrel
                clear H5 HQ5
                have e0 : wr.cell? ⟨q, 1 + 1, none⟩ = some (.slice vA ol vc) := by simp [World.cell?, HB.out]
                have e0' : wr.cell? ⟨q, 2, none⟩ = some (.slice vA ol vc) := e0
                have el := (Array.getElem?_eq_some_iff.1 HB.out).1
                by_cases hjt : j < ol
                · have hji : (j : Int) < (ol : Int) := by omega
                  obtain ⟨st, hst⟩ : ∃ st, x.1.over[j]? = some st := ⟨_, List.getElem?_eq_getElem (by have := HC.out.2.2.1; omega)⟩
                  obtain ⟨fb, fo, fa, frow0⟩ := HVA.out.get (j := j) (by have := HC.out.2.2.1; omega)
                  subst fa
                  have frow : RowAt' wr 3 Stp.enc fb fo x.1.over := frow0.below (by have h := HG.out; rw [← h]; exact H.out.below)
                  have hpre : ((((headF L ++ L.secs.flatMap secF) ++ L.sigs.flatMap sigF) ++ (L.exits.take i).flatMap exF) ++ ([(x.1.s, 5), (x.1.p, 2), (((ol : Nat) : Int), 2)] ++ (x.1.over.take j).flatMap stF)) ++ stF st <+: fieldsL L := by
                    have h := HC.out.2.2.2.2
                    rw [HC.out.2.1] at h
                    have h2 := (pre_add (pre_add (flat_pre stF hst))).trans h
                    simpa only [List.append_assoc] using h2
                  have HF := Lib.hid (show fitF (st.s, 5) ∧ fitF (st.i, 2) ∧ fitF (st.o, 2) by
                    have h := pre_fit HRL.out hpre
                    exact ⟨h _ (by simp [stF]), h _ (by simp [stF]), h _ (by simp [stF])⟩)
                  have HST := Lib.hid hst
                  obtain ⟨b2, hb2'⟩ : ∃ b2, b2 = bl ++ bitsF ([(x.1.s, 5), (x.1.p, 2), (((ol : Nat) : Int), 2)] ++ (x.1.over.take j).flatMap stF) := ⟨_, rfl⟩
                  rw [← hb2'] at H
                  have HL := Lib.hid (show b2.length ≤ 1600 by
                    have h := pre_len HRL.out ((List.prefix_append _ _).trans hpre)
                    rw [bitsF_append, ← HBL.out, ← hb2'] at h
                    exact h)
                  have HB2 := Lib.hid hb2'
                  clear hb2'
                  have q2b : ∀ V, ClB wr V → V.cell? ⟨q, 2, none⟩ = some (.slice (some ⟨fb, fo, none⟩) ol vc) := fun V h => by
                    have e := (h.block q (Array.getElem?_eq_some_iff.1 HB.out).1).trans HB.out
                    simp [World.cell?, e]
                  have z0b : ∀ V, ClB wr V → V.cell? ⟨fb, fo + j * 3, none⟩ = some (.int .i64 st.s) := fun V h => (frow.below h).2 j st HST.out 0 _ rfl
                  have z1b : ∀ V, ClB wr V → V.cell? ⟨fb, fo + j * 3 + 1, none⟩ = some (.int .i64 st.i) := fun V h => (frow.below h).2 j st HST.out 1 _ rfl
                  have z2b : ∀ V, ClB wr V → V.cell? ⟨fb, fo + j * 3 + 2, none⟩ = some (.int .i64 st.o) := fun V h => (frow.below h).2 j st HST.out 2 _ rfl
                  obtain ⟨bl, hbl⟩ : ∃ bl, bl = b2 := ⟨_, rfl⟩
                  subst hbl
                  have c0b : ∀ V, ClB wr V → V.cell? ⟨k, 0, none⟩ = some (.slice A n cp) := fun V h => by have q := (H.out.next h).bx; simp [World.cell?, q]
                  have c1b : ∀ V, ClB wr V → V.cell? ⟨k, 1, none⟩ = some (.int .i64 (N : Nat)) := fun V h => by have q := (H.out.next h).bx; simp [World.cell?, q]
                  have HV := Lib.hid (show BitsV wr (.agg #[.slice A n cp, .int .i64 (N : Nat)]) (bl ++ bitsF []) by simpa [bitsF] using H.out.bv)
                  clear hst frow0 frow hpre
                  go_upto_region 21 with fail
                  clear e0 e0' el
                  refine (wpIn_wide (n := 5)).1 (wpIn_region_rel_head (.inl rfl) 22 [([(4, none)], none), ([(8, none)], none), ([(105, some 0)], none), ([(9, none)], none), ([(106, some 1), (107, some 0)], none), ([(108, some 0)], none), ([(109, some 0)], none), ([(104, some 6), (110, some 0)], none), ([(8, none)], none), ([(112, some 0)], none), ([(9, none)], none), ([(113, some 1), (114, some 0)], none), ([(115, some 0)], none), ([(116, some 0)], none), ([(111, some 6), (117, some 0)], none), ([(8, none)], none), ([(119, some 0)], none), ([(9, none)], none), ([(120, some 1), (121, some 0)], none), ([(122, some 0)], none), ([(123, some 0)], none), ([(118, some 6), (124, some 0)], none)] [(0, 125)] (by kernel_rfl) (by kernel_rfl) (by kernel_rfl) (by kernel_rfl) (by kernel_rfl) (by kernel_rfl) (by kernel_rfl) (by kernel_rfl) ?_)
                  simp only [List.take_succ_cons, List.take_zero, List.drop_succ_cons, List.drop_zero]
                  refine ob_det (c := .agg #[.slice A n cp, .int .i64 (N : Nat)]) ?_ ?_
                  · intro ρ W hk hC
                    simp only [seen, obOp]
                    rintro h4
                    replace h4 : ρ (.tmp 4) = .pointer (some ⟨k, 0, none⟩) := h4.trans rfl
                    exact rel_value (by simp [go_sem, h4, c0b W hC, c1b W hC]) hC
                  refine ob_det (c := .pointer (some ⟨q, 2, none⟩)) ?_ ?_
                  · intro ρ W hk hC
                    simp only [seen, obOp]
                    rintro h8
                    replace h8 : ρ (.tmp 8) = .pointer (some ⟨q, 0, none⟩) := h8.trans rfl
                    exact rel_value (by simp [go_sem, h8]) hC
                  refine ob_det (c := .slice (some ⟨fb, fo, none⟩) ol vc) ?_ ?_
                  · intro ρ W hk hC
                    simp only [seen, obOp, List.getD_cons_zero]
                    rintro h105
                    exact rel_value (by simp [go_sem, h105, q2b W hC]) hC
                  refine ob_det (c := .int .i64 (j : Nat)) ?_ ?_
                  · intro ρ W hk hC
                    simp only [seen, obOp]
                    rintro h9
                    replace h9 : ρ (.tmp 9) = .int .i64 (j : Nat) := h9.trans rfl
                    exact rel_value (by simp [go_sem, h9]) hC
                  refine ob_det (c := .pointer (some ⟨fb, fo + j * 3, none⟩)) ?_ ?_
                  · intro ρ W hk hC
                    simp only [seen, obOp, List.getD_cons_zero, List.getD_cons_succ]
                    rintro h106 h107
                    exact rel_value (by simp [go_sem, h106, h107, hji]) hC
                  refine ob_det (c := .pointer (some ⟨fb, fo + j * 3, none⟩)) ?_ ?_
                  · intro ρ W hk hC
                    simp only [seen, obOp, List.getD_cons_zero]
                    rintro h108
                    exact rel_value (by simp [go_sem, h108]) hC
                  refine ob_det (c := .int .i64 st.s) ?_ ?_
                  · intro ρ W hk hC
                    simp only [seen, obOp, List.getD_cons_zero]
                    rintro h109
                    exact rel_value (by simp [go_sem, h109, z0b W hC]) hC
                  refine ⟨fun v w' => BitsV w' v (bl ++ bitsF [(st.s, 5)]), fun _ _ _ h k => h.below k, ?_, ?_⟩
                  · intro ρ W hk hC
                    simp only [seen, obOp, List.getD_cons_zero, List.getD_cons_succ]
                    rintro h104 h110
                    refine rel_enter (f := 27) (args := #[.agg #[.slice A n cp, .int .i64 (N : Nat)], .int .i64 (st.s), .int .i64 5]) (by simp [go_sem, h104, h110, hk.const, hk.func]) ((put8_next (fs := []) (st.s) 5 (HV.out.below hC) HF.out.1 (by have := HL.out; simp [widF]; omega)).mono ?_)
                    rintro e w9 ⟨v, rfl, hb, b9⟩
                    exact ⟨_, rfl, hC.step b9, b9, hb⟩
                  refine ob_det (c := .pointer (some ⟨q, 2, none⟩)) ?_ ?_
                  · intro ρ W hk hC
                    simp only [seen, obOp]
                    rintro h8
                    replace h8 : ρ (.tmp 8) = .pointer (some ⟨q, 0, none⟩) := h8.trans rfl
                    exact rel_value (by simp [go_sem, h8]) hC
                  refine ob_det (c := .slice (some ⟨fb, fo, none⟩) ol vc) ?_ ?_
                  · intro ρ W hk hC
                    simp only [seen, obOp, List.getD_cons_zero]
                    rintro h112
                    exact rel_value (by simp [go_sem, h112, q2b W hC]) hC
                  refine ob_det (c := .int .i64 (j : Nat)) ?_ ?_
                  · intro ρ W hk hC
                    simp only [seen, obOp]
                    rintro h9
                    replace h9 : ρ (.tmp 9) = .int .i64 (j : Nat) := h9.trans rfl
                    exact rel_value (by simp [go_sem, h9]) hC
                  refine ob_det (c := .pointer (some ⟨fb, fo + j * 3, none⟩)) ?_ ?_
                  · intro ρ W hk hC
                    simp only [seen, obOp, List.getD_cons_zero, List.getD_cons_succ]
                    rintro h113 h114
                    exact rel_value (by simp [go_sem, h113, h114, hji]) hC
                  refine ob_det (c := .pointer (some ⟨fb, fo + j * 3 + 1, none⟩)) ?_ ?_
                  · intro ρ W hk hC
                    simp only [seen, obOp, List.getD_cons_zero]
                    rintro h115
                    exact rel_value (by simp [go_sem, h115]) hC
                  refine ob_det (c := .int .i64 st.i) ?_ ?_
                  · intro ρ W hk hC
                    simp only [seen, obOp, List.getD_cons_zero]
                    rintro h116
                    exact rel_value (by simp [go_sem, h116, z1b W hC]) hC
                  refine ⟨fun v w' => BitsV w' v (bl ++ bitsF [(st.s, 5), (st.i, 2)]), fun _ _ _ h k => h.below k, ?_, ?_⟩
                  · intro ρ W hk hC
                    simp only [seen, obOp, List.getD_cons_zero, List.getD_cons_succ]
                    rintro ⟨A111, n111, c111, N111, h111, e111, m111, o111⟩ h117
                    refine rel_enter (f := 27) (args := #[.agg #[.slice A111 n111 c111, .int .i64 (N111 : Nat)], .int .i64 (st.i), .int .i64 2]) (by simp [go_sem, h111, h117, hk.const, hk.func]) ((put8_next (fs := [(st.s, 5)]) (st.i) 2 (show BitsV W _ (bl ++ bitsF [(st.s, 5)]) from ⟨A111, n111, c111, N111, rfl, e111, m111, o111⟩) HF.out.2.1 (by have := HL.out; simp [widF]; omega)).mono ?_)
                    rintro e w9 ⟨v, rfl, hb, b9⟩
                    exact ⟨_, rfl, hC.step b9, b9, hb⟩
                  refine ob_det (c := .pointer (some ⟨q, 2, none⟩)) ?_ ?_
                  · intro ρ W hk hC
                    simp only [seen, obOp]
                    rintro h8
                    replace h8 : ρ (.tmp 8) = .pointer (some ⟨q, 0, none⟩) := h8.trans rfl
                    exact rel_value (by simp [go_sem, h8]) hC
                  refine ob_det (c := .slice (some ⟨fb, fo, none⟩) ol vc) ?_ ?_
                  · intro ρ W hk hC
                    simp only [seen, obOp, List.getD_cons_zero]
                    rintro h119
                    exact rel_value (by simp [go_sem, h119, q2b W hC]) hC
                  refine ob_det (c := .int .i64 (j : Nat)) ?_ ?_
                  · intro ρ W hk hC
                    simp only [seen, obOp]
                    rintro h9
                    replace h9 : ρ (.tmp 9) = .int .i64 (j : Nat) := h9.trans rfl
                    exact rel_value (by simp [go_sem, h9]) hC
                  refine ob_det (c := .pointer (some ⟨fb, fo + j * 3, none⟩)) ?_ ?_
                  · intro ρ W hk hC
                    simp only [seen, obOp, List.getD_cons_zero, List.getD_cons_succ]
                    rintro h120 h121
                    exact rel_value (by simp [go_sem, h120, h121, hji]) hC
                  refine ob_det (c := .pointer (some ⟨fb, fo + j * 3 + 2, none⟩)) ?_ ?_
                  · intro ρ W hk hC
                    simp only [seen, obOp, List.getD_cons_zero]
                    rintro h122
                    exact rel_value (by simp [go_sem, h122]) hC
                  refine ob_det (c := .int .i64 st.o) ?_ ?_
                  · intro ρ W hk hC
                    simp only [seen, obOp, List.getD_cons_zero]
                    rintro h123
                    exact rel_value (by simp [go_sem, h123, z2b W hC]) hC
                  refine ⟨fun v w' => BitsV w' v (bl ++ bitsF [(st.s, 5), (st.i, 2), (st.o, 2)]), fun _ _ _ h k => h.below k, ?_, ?_⟩
                  · intro ρ W hk hC
                    simp only [seen, obOp, List.getD_cons_zero, List.getD_cons_succ]
                    rintro ⟨A118, n118, c118, N118, h118, e118, m118, o118⟩ h124
                    refine rel_enter (f := 27) (args := #[.agg #[.slice A118 n118 c118, .int .i64 (N118 : Nat)], .int .i64 (st.o), .int .i64 2]) (by simp [go_sem, h118, h124, hk.const, hk.func]) ((put8_next (fs := [(st.s, 5), (st.i, 2)]) (st.o) 2 (show BitsV W _ (bl ++ bitsF [(st.s, 5), (st.i, 2)]) from ⟨A118, n118, c118, N118, rfl, e118, m118, o118⟩) HF.out.2.2 (by have := HL.out; simp [widF]; omega)).mono ?_)
                    rintro e w9 ⟨v, rfl, hb, b9⟩
                    exact ⟨_, rfl, hC.step b9, b9, hb⟩
                  intro vs w5 hC5
                  simp only [endSeen, List.getD_cons_zero]
                  intro hT
                  simp only [writeAll, List.setIfInBounds_toArray, List.set_cons_zero, List.set_cons_succ]
                  obtain ⟨A4, n4, c4, N4, h40, e4, m4, o4⟩ := hT
                  rw [show vs 125 = _ from h40]
                  have s5 := H.out.next hC5
                  have y0 : w5.cell? ⟨k, 0, none⟩ = some (.slice A n cp) := by simp [World.cell?, s5.bx]
                  have y1 : w5.cell? ⟨k, 1, none⟩ = some (.int .i64 (N : Nat)) := by simp [World.cell?, s5.bx]
                  have yl := (Array.getElem?_eq_some_iff.1 s5.bx).1
                  have yf : ∀ o, w5.frozen? ⟨k, o, none⟩ = false := fun o => frozen_of_row _ _ _ _ _ s5.bx
                  have H6 := Lib.hid (s5.put ⟨A4, n4, c4, N4, rfl, e4, m4, o4⟩)
                  have hq6 := (hC5.block q (Array.getElem?_eq_some_iff.1 HB.out).1).trans HB.out
                  clear q2b z0b z1b z2b HV
                  clear s5 e4 m4 o4 h40 hC5 c0b c1b H
                  gi_wp2
                  go_wp2_with fail
                  clear y0 y1 yl yf
                  go_roundw
                  case measure => simp [intOf]; omega
                  case rel => exact ⟨j + 1, n4, c4, N4, A4, by omega, by go_num, by rw [flat_take stF HST.out, ← List.append_assoc, bitsF_append, ← List.append_assoc, ← HB2.out]; exact H6, Lib.hid (by
                    have h1 := HQ.out.2.1
                    rw [Below.heap_setCell _ _ _ _ (show q ≠ k by omega), Below.heap_setCell _ _ _ _ (show q ≠ k by omega)]
                    exact hq6)⟩
                · obtain rfl : j = ol := by omega
                  have hji : ¬ ((j : Nat) : Int) < (j : Int) := by omega
                  have ht : x.1.over.take j = x.1.over := List.take_of_length_le (by have := HC.out.2.2.1; omega)
                  rw [ht] at H
                  go_wp2_with fail
                  go_roundw
                  case measure => simp [intOf]; omega
                  case rel => exact ⟨i + 1, n, cp, N, A, by omega, by go_num, by rw [flat_take exF HC.out.1, ← List.append_assoc, bitsF_append, ← HBL.out, HC.out.2.1]; exact H⟩
            · obtain rfl : i = L.exits.length := by omega
              have hii : ¬ ((L.exits.length : Nat) : Int) < (L.exits.length : Int) := by omega
              rw [List.take_length] at H
              go_wp2_with fail
              clear x0 x1 x2 x3 x4 x5 x6 x7 x8 x9 x10 xl
              have HS2 := H
              clear H
              go_loopw [10] (fun cc wr => ∃ (i n cp N : Nat) (A : Option Addr), i ≤ L.flanks.length ∧ cc = .int .i64 i ∧ Hid (P8 g k L ⟨a0, a1, a2, a3, p0, p1, p2, p3⟩ w wr A n cp N (bitsF ((((headF L ++ L.secs.flatMap secF) ++ L.sigs.flatMap sigF) ++ L.exits.flatMap exF) ++ (L.flanks.take i).flatMap flF)))) (fun cc _ => L.flanks.length - (intOf cc).toNat)
              case atStart => exact ⟨0, _, _, _, _, Nat.zero_le _, rfl, by simpa using HS2⟩
              case round =>
                obtain ⟨i, n, cp, N, A, hi, rfl, H⟩ := hrel
                clear HS2
                obtain ⟨x0, x1, x2, x3, x4, x5, x6, x7, x8, x9, x10⟩ := H.out.lx.cells
                dsimp only at x0 x1 x2 x3
                have xl := H.out.lx.1
                by_cases hlt : i < L.flanks.length
                · have hii : (i : Int) < (L.flanks.length : Int) := by omega
                  obtain ⟨x, hx⟩ : ∃ x, L.flanks[i]? = some x := ⟨_, List.getElem?_eq_getElem hlt⟩
                  obtain ⟨eb, eo, ea, hrow0⟩ := HLA.out.flanks.get (j := i) hlt
                  dsimp only at ea
                  subst ea
                  have hrow : RowAt' wr 4 Flk.enc eb eo L.flanks := hrow0.below (by have h := HG.out; rw [← h]; exact H.out.below)
                  have lr := hrow.1
                  have z0 : wr.cell? ⟨eb, eo + i * 4, none⟩ = some (.int .i64 x.s) := hrow.2 i x hx 0 _ rfl
                  have z1 : wr.cell? ⟨eb, eo + i * 4 + 1, none⟩ = some (.int .i64 x.way) := hrow.2 i x hx 1 _ rfl
                  have z2 : wr.cell? ⟨eb, eo + i * 4 + 2, none⟩ = some (.int .i64 x.pt) := hrow.2 i x hx 2 _ rfl
                  have z3 : wr.cell? ⟨eb, eo + i * 4 + 3, none⟩ = some (.int .i64 x.pos) := hrow.2 i x hx 3 _ rfl
                  have HF := Lib.hid (show fitF (x.s, 5) ∧ fitF (x.way, 1) ∧ fitF (x.pt, 5) ∧ fitF (x.pos, 1) by
                    have h := pre_fit HRL.out (fp4 L hx)
                    exact ⟨h _ (by simp [flF]), h _ (by simp [flF]), h _ (by simp [flF]), h _ (by simp [flF])⟩)
                  have HC := Lib.hid hx
                  obtain ⟨bl, hbl⟩ : ∃ bl, bl = bitsF ((((headF L ++ L.secs.flatMap secF) ++ L.sigs.flatMap sigF) ++ L.exits.flatMap exF) ++ (L.flanks.take i).flatMap flF) := ⟨_, rfl⟩
                  rw [← hbl] at H
                  have HL := Lib.hid (show bl.length ≤ 1600 by rw [hbl]; exact pre_len HRL.out ((List.prefix_append _ _).trans (fp4 L hx)))
                  have HBL := Lib.hid hbl
                  clear hbl
                  obtain ⟨q, hq⟩ : ∃ q, q = wr.heap.size := ⟨_, rfl⟩
                  obtain ⟨Y, hY⟩ : ∃ Y, Y = wr.alloc (.cells #[.int .i64 x.s, .int .i64 x.way, .int .i64 x.pt, .int .i64 x.pos] 75) := ⟨_, rfl⟩
                  have hYb : Below wr.heap.size wr Y := by rw [hY]; exact bself
                  have hYq : Y.heap[q]? = some (.cells #[.int .i64 x.s, .int .i64 x.way, .int .i64 x.pt, .int .i64 x.pos] 75 (0, 0)) := by rw [hY, hq]; exact World.alloc_heap_new _ _
                  have HY := Lib.hid (H.out.next hYb)
                  have HQ := Lib.hid hYq
                  clear hx hrow0 hrow hYb hYq H
                  go_upto_region 26 with fail
                  rw [← hY]
                  rw [← hq]
                  clear hY hq lr z0 z1 z2 z3 x0 x1 x2 x3 x4 x5 x6 x7 x8 x9 x10 xl
                  have q0b : ∀ V, ClB Y V → V.cell? ⟨q, 0, none⟩ = some (.int .i64 x.s) := fun V h => by
                    have e := (h.block q (Array.getElem?_eq_some_iff.1 HQ.out).1).trans HQ.out
                    simp [World.cell?, e]
                  have q1b : ∀ V, ClB Y V → V.cell? ⟨q, 1, none⟩ = some (.int .i64 x.way) := fun V h => by
                    have e := (h.block q (Array.getElem?_eq_some_iff.1 HQ.out).1).trans HQ.out
                    simp [World.cell?, e]
                  have q2b : ∀ V, ClB Y V → V.cell? ⟨q, 2, none⟩ = some (.int .i64 x.pt) := fun V h => by
                    have e := (h.block q (Array.getElem?_eq_some_iff.1 HQ.out).1).trans HQ.out
                    simp [World.cell?, e]
                  have q3b : ∀ V, ClB Y V → V.cell? ⟨q, 3, none⟩ = some (.int .i64 x.pos) := fun V h => by
                    have e := (h.block q (Array.getElem?_eq_some_iff.1 HQ.out).1).trans HQ.out
                    simp [World.cell?, e]
                  have c0b : ∀ V, ClB Y V → V.cell? ⟨k, 0, none⟩ = some (.slice A n cp) := fun V h => by have q := (HY.out.next h).bx; simp [World.cell?, q]
                  have c1b : ∀ V, ClB Y V → V.cell? ⟨k, 1, none⟩ = some (.int .i64 (N : Nat)) := fun V h => by have q := (HY.out.next h).bx; simp [World.cell?, q]
                  have HV := Lib.hid (show BitsV Y (.agg #[.slice A n cp, .int .i64 (N : Nat)]) (bl ++ bitsF []) by simpa [bitsF] using HY.out.bv)
                  refine (wpIn_wide (n := 5)).1 (wpIn_region_rel_head (.inl rfl) 13 [([(4, none)], none), ([(11, none)], none), ([(139, some 0)], none), ([(138, some 2), (140, some 0)], none), ([(11, none)], none), ([(142, some 0)], none), ([(141, some 2), (143, some 0)], none), ([(11, none)], none), ([(145, some 0)], none), ([(144, some 2), (146, some 0)], none), ([(11, none)], none), ([(148, some 0)], none), ([(147, some 2), (149, some 0)], none)] [(0, 150)] (by kernel_rfl) (by kernel_rfl) (by kernel_rfl) (by kernel_rfl) (by kernel_rfl) (by kernel_rfl) (by kernel_rfl) (by kernel_rfl) ?_)
                  simp only [List.take_succ_cons, List.take_zero, List.drop_succ_cons, List.drop_zero]
                  refine ob_det (c := .agg #[.slice A n cp, .int .i64 (N : Nat)]) ?_ ?_
                  · intro ρ W hk hC
                    simp only [seen, obOp]
                    rintro h4
                    replace h4 : ρ (.tmp 4) = .pointer (some ⟨k, 0, none⟩) := h4.trans rfl
                    exact rel_value (by simp [go_sem, h4, c0b W hC, c1b W hC]) hC
                  refine ob_det (c := .pointer (some ⟨q, 0, none⟩)) ?_ ?_
                  · intro ρ W hk hC
                    simp only [seen, obOp]
                    rintro h11
                    replace h11 : ρ (.tmp 11) = .pointer (some ⟨q, 0, none⟩) := h11.trans rfl
                    exact rel_value (by simp [go_sem, h11]) hC
                  refine ob_det (c := .int .i64 x.s) ?_ ?_
                  · intro ρ W hk hC
                    simp only [seen, obOp, List.getD_cons_zero]
                    rintro h139
                    exact rel_value (by simp [go_sem, h139, q0b W hC]) hC
                  refine ⟨fun v w' => BitsV w' v (bl ++ bitsF [(x.s, 5)]), fun _ _ _ h k => h.below k, ?_, ?_⟩
                  · intro ρ W hk hC
                    simp only [seen, obOp, List.getD_cons_zero, List.getD_cons_succ]
                    rintro h138 h140
                    refine rel_enter (f := 27) (args := #[.agg #[.slice A n cp, .int .i64 (N : Nat)], .int .i64 (x.s), .int .i64 5]) (by simp [go_sem, h138, h140, hk.const, hk.func]) ((put8_next (fs := []) (x.s) 5 (HV.out.below hC) HF.out.1 (by have := HL.out; simp [widF]; omega)).mono ?_)
                    rintro e w9 ⟨v, rfl, hb, b9⟩
                    exact ⟨_, rfl, hC.step b9, b9, hb⟩
                  refine ob_det (c := .pointer (some ⟨q, 1, none⟩)) ?_ ?_
                  · intro ρ W hk hC
                    simp only [seen, obOp]
                    rintro h11
                    replace h11 : ρ (.tmp 11) = .pointer (some ⟨q, 0, none⟩) := h11.trans rfl
                    exact rel_value (by simp [go_sem, h11]) hC
                  refine ob_det (c := .int .i64 x.way) ?_ ?_
                  · intro ρ W hk hC
                    simp only [seen, obOp, List.getD_cons_zero]
                    rintro h142
                    exact rel_value (by simp [go_sem, h142, q1b W hC]) hC
                  refine ⟨fun v w' => BitsV w' v (bl ++ bitsF [(x.s, 5), (x.way, 1)]), fun _ _ _ h k => h.below k, ?_, ?_⟩
                  · intro ρ W hk hC
                    simp only [seen, obOp, List.getD_cons_zero, List.getD_cons_succ]
                    rintro ⟨A141, n141, c141, N141, h141, e141, m141, o141⟩ h143
                    refine rel_enter (f := 27) (args := #[.agg #[.slice A141 n141 c141, .int .i64 (N141 : Nat)], .int .i64 (x.way), .int .i64 1]) (by simp [go_sem, h141, h143, hk.const, hk.func]) ((put8_next (fs := [(x.s, 5)]) (x.way) 1 (show BitsV W _ (bl ++ bitsF [(x.s, 5)]) from ⟨A141, n141, c141, N141, rfl, e141, m141, o141⟩) HF.out.2.1 (by have := HL.out; simp [widF]; omega)).mono ?_)
                    rintro e w9 ⟨v, rfl, hb, b9⟩
                    exact ⟨_, rfl, hC.step b9, b9, hb⟩
                  refine ob_det (c := .pointer (some ⟨q, 2, none⟩)) ?_ ?_
                  · intro ρ W hk hC
                    simp only [seen, obOp]
                    rintro h11
                    replace h11 : ρ (.tmp 11) = .pointer (some ⟨q, 0, none⟩) := h11.trans rfl
                    exact rel_value (by simp [go_sem, h11]) hC
                  refine ob_det (c := .int .i64 x.pt) ?_ ?_
                  · intro ρ W hk hC
                    simp only [seen, obOp, List.getD_cons_zero]
                    rintro h145
                    exact rel_value (by simp [go_sem, h145, q2b W hC]) hC
                  refine ⟨fun v w' => BitsV w' v (bl ++ bitsF [(x.s, 5), (x.way, 1), (x.pt, 5)]), fun _ _ _ h k => h.below k, ?_, ?_⟩
                  · intro ρ W hk hC
                    simp only [seen, obOp, List.getD_cons_zero, List.getD_cons_succ]
                    rintro ⟨A144, n144, c144, N144, h144, e144, m144, o144⟩ h146
                    refine rel_enter (f := 27) (args := #[.agg #[.slice A144 n144 c144, .int .i64 (N144 : Nat)], .int .i64 (x.pt), .int .i64 5]) (by simp [go_sem, h144, h146, hk.const, hk.func]) ((put8_next (fs := [(x.s, 5), (x.way, 1)]) (x.pt) 5 (show BitsV W _ (bl ++ bitsF [(x.s, 5), (x.way, 1)]) from ⟨A144, n144, c144, N144, rfl, e144, m144, o144⟩) HF.out.2.2.1 (by have := HL.out; simp [widF]; omega)).mono ?_)
                    rintro e w9 ⟨v, rfl, hb, b9⟩
                    exact ⟨_, rfl, hC.step b9, b9, hb⟩
                  refine ob_det (c := .pointer (some ⟨q, 3, none⟩)) ?_ ?_
                  · intro ρ W hk hC
                    simp only [seen, obOp]
                    rintro h11
                    replace h11 : ρ (.tmp 11) = .pointer (some ⟨q, 0, none⟩) := h11.trans rfl
                    exact rel_value (by simp [go_sem, h11]) hC
                  refine ob_det (c := .int .i64 x.pos) ?_ ?_
                  · intro ρ W hk hC
                    simp only [seen, obOp, List.getD_cons_zero]
                    rintro h148
                    exact rel_value (by simp [go_sem, h148, q3b W hC]) hC
                  refine ⟨fun v w' => BitsV w' v (bl ++ bitsF [(x.s, 5), (x.way, 1), (x.pt, 5), (x.pos, 1)]), fun _ _ _ h k => h.below k, ?_, ?_⟩
                  · intro ρ W hk hC
                    simp only [seen, obOp, List.getD_cons_zero, List.getD_cons_succ]
                    rintro ⟨A147, n147, c147, N147, h147, e147, m147, o147⟩ h149
                    refine rel_enter (f := 27) (args := #[.agg #[.slice A147 n147 c147, .int .i64 (N147 : Nat)], .int .i64 (x.pos), .int .i64 1]) (by simp [go_sem, h147, h149, hk.const, hk.func]) ((put8_next (fs := [(x.s, 5), (x.way, 1), (x.pt, 5)]) (x.pos) 1 (show BitsV W _ (bl ++ bitsF [(x.s, 5), (x.way, 1), (x.pt, 5)]) from ⟨A147, n147, c147, N147, rfl, e147, m147, o147⟩) HF.out.2.2.2 (by have := HL.out; simp [widF]; omega)).mono ?_)
                    rintro e w9 ⟨v, rfl, hb, b9⟩
                    exact ⟨_, rfl, hC.step b9, b9, hb⟩
                  intro vs w5 hC5
                  simp only [endSeen, List.getD_cons_zero]
                  intro hT
                  simp only [writeAll, List.setIfInBounds_toArray, List.set_cons_zero, List.set_cons_succ]
                  obtain ⟨A4, n4, c4, N4, h40, e4, m4, o4⟩ := hT
                  rw [show vs 150 = _ from h40]
                  have s5 := HY.out.next hC5
                  have y0 : w5.cell? ⟨k, 0, none⟩ = some (.slice A n cp) := by simp [World.cell?, s5.bx]
                  have y1 : w5.cell? ⟨k, 1, none⟩ = some (.int .i64 (N : Nat)) := by simp [World.cell?, s5.bx]
                  have yl := (Array.getElem?_eq_some_iff.1 s5.bx).1
                  have yf : ∀ o, w5.frozen? ⟨k, o, none⟩ = false := fun o => frozen_of_row _ _ _ _ _ s5.bx
                  have H5 := Lib.hid (s5.put ⟨A4, n4, c4, N4, rfl, e4, m4, o4⟩)
                  clear q0b q1b q2b q3b HV
                  clear s5 e4 m4 o4 h40 hC5 c0b c1b HY
                  gi_wp2
                  go_wp2_with fail
                  clear y0 y1 yl yf
                  go_roundw
                  case measure => simp [intOf]; omega
                  case rel => exact ⟨i + 1, n4, c4, N4, A4, by omega, by go_num, by rw [flat_take flF HC.out, ← List.append_assoc, bitsF_append, ← HBL.out]; exact H5⟩
                · obtain rfl : i = L.flanks.length := by omega
                  have hii : ¬ ((L.flanks.length : Nat) : Int) < (L.flanks.length : Int) := by omega
                  rw [List.take_length] at H
                  go_wp2_with fail
                  (with_reducible refine (times8_any _ _ _ _ _ _ _ _).mono ?_)
                  rintro e w6 ⟨rfl, b6⟩
                  have HS3 := Lib.hid (H.out.next b6)
                  clear x0 x1 x2 x3 x4 x5 x6 x7 x8 x9 x10 xl H b6
                  go_wp2_with fail
                  obtain ⟨q, hq⟩ : ∃ q, q = w6.heap.size := ⟨_, rfl⟩
                  obtain ⟨Y, hY⟩ : ∃ Y, Y = w6.alloc (.cells #[.int .i64 L.t0, .int .i64 L.t1, .int .i64 L.t2, .int .i64 L.t3, .int .i64 L.t4, .int .i64 L.t5, .int .i64 L.t6] 76) := ⟨_, rfl⟩
                  have hYb : Below w6.heap.size w6 Y := by rw [hY]; exact bself
                  have hYq : Y.heap[q]? = some (.cells #[.int .i64 L.t0, .int .i64 L.t1, .int .i64 L.t2, .int .i64 L.t3, .int .i64 L.t4, .int .i64 L.t5, .int .i64 L.t6] 76 (0, 0)) := by rw [hY, hq]; exact World.alloc_heap_new _ _
                  have hkq : k < q := by rw [hq]; exact (Array.getElem?_eq_some_iff.1 HS3.out.bx).1
                  have HY := Lib.hid (HS3.out.next hYb)
                  have HQ0 := Lib.hid hYq
                  have HKQ := Lib.hid hkq
                  rw [← hY]
                  rw [← hq]
                  clear hYb hYq hY hq HS3 hkq
                  go_loopw [13] (fun cc wr => ∃ (i n cp N : Nat) (A : Option Addr), i ≤ 7 ∧ cc = .int .i64 i ∧ Hid (P8 g k L ⟨a0, a1, a2, a3, p0, p1, p2, p3⟩ w wr A n cp N (bitsF (((((headF L ++ L.secs.flatMap secF) ++ L.sigs.flatMap sigF) ++ L.exits.flatMap exF) ++ L.flanks.flatMap flF) ++ (L.times.take i).flatMap tmF))) ∧ Hid (wr.heap[q]? = some (.cells #[.int .i64 L.t0, .int .i64 L.t1, .int .i64 L.t2, .int .i64 L.t3, .int .i64 L.t4, .int .i64 L.t5, .int .i64 L.t6] 76 (0, 0)))) (fun cc _ => 7 - (intOf cc).toNat)
                  case atStart => exact ⟨0, _, _, _, _, Nat.zero_le _, rfl, by simpa using HY, HQ0⟩
                  case round =>
                    obtain ⟨i, n, cp, N, A, hi, rfl, H, HQ⟩ := hrel
                    clear HY HQ0
                    by_cases hlt : i < 7
                    · have hi7 : (i : Int) < 7 := by omega
                      obtain ⟨t, ht⟩ : ∃ t, L.times[i]? = some t := ⟨_, List.getElem?_eq_getElem (by simpa [Lay.times] using hlt)⟩
                      have htm : 1 ≤ t ∧ t ≤ 1000 := by
                        have h := ((right_iff L).1 HRL.out).2.1
                        unfold timesT at h
                        rw [List.all_eq_true] at h
                        simpa using h t (List.mem_of_getElem? ht)
                      have htw : IntKind.i64.wrap (t - 1) = t - 1 := IntWalk.i64_in _ (by omega)
                      have hcl : (#[.int .i64 L.t0, .int .i64 L.t1, .int .i64 L.t2, .int .i64 L.t3, .int .i64 L.t4, .int .i64 L.t5, .int .i64 L.t6] : Array Value)[i]? = some (.int .i64 t) := by
                        have h := congrArg (Option.map (Value.int .i64)) ht
                        rw [← List.getElem?_map] at h
                        simpa [Lay.times] using h
                      have HF := Lib.hid (show fitF (t - 1, 10) from pre_fit HRL.out (fp5 L ht) _ (by simp [tmF]))
                      have HC := Lib.hid ht
                      obtain ⟨bl, hbl⟩ : ∃ bl, bl = bitsF (((((headF L ++ L.secs.flatMap secF) ++ L.sigs.flatMap sigF) ++ L.exits.flatMap exF) ++ L.flanks.flatMap flF) ++ (L.times.take i).flatMap tmF) := ⟨_, rfl⟩
                      rw [← hbl] at H
                      have HL := Lib.hid (show bl.length ≤ 1600 by rw [hbl]; exact pre_len HRL.out ((List.prefix_append _ _).trans (fp5 L ht)))
                      have HBL := Lib.hid hbl
                      clear hbl
                      have q0b : ∀ V, ClB wr V → V.cell? ⟨q, i, none⟩ = some (.int .i64 t) := fun V h => by
                        have e := (h.block q (Array.getElem?_eq_some_iff.1 HQ.out).1).trans HQ.out
                        simp only [World.cell?, e]
                        exact hcl
                      have c0b : ∀ V, ClB wr V → V.cell? ⟨k, 0, none⟩ = some (.slice A n cp) := fun V h => by have q := (H.out.next h).bx; simp [World.cell?, q]
                      have c1b : ∀ V, ClB wr V → V.cell? ⟨k, 1, none⟩ = some (.int .i64 (N : Nat)) := fun V h => by have q := (H.out.next h).bx; simp [World.cell?, q]
                      have HV := Lib.hid (show BitsV wr (.agg #[.slice A n cp, .int .i64 (N : Nat)]) (bl ++ bitsF []) by simpa [bitsF] using H.out.bv)
                      clear ht htm
                      go_upto_region 31 with fail
                      refine (wpIn_wide (n := 5)).1 (wpIn_region_rel_head (.inl rfl) 6 [([(4, none)], none), ([(13, none)], none), ([(12, none), (159, some 0)], none), ([(160, some 0)], none), ([(161, some 0)], none), ([(158, some 4), (162, some 0)], none)] [(0, 163)] (by kernel_rfl) (by kernel_rfl) (by kernel_rfl) (by kernel_rfl) (by kernel_rfl) (by kernel_rfl) (by kernel_rfl) (by kernel_rfl) ?_)
                      simp only [List.take_succ_cons, List.take_zero, List.drop_succ_cons, List.drop_zero]
                      refine ob_det (c := .agg #[.slice A n cp, .int .i64 (N : Nat)]) ?_ ?_
                      · intro ρ W hk hC
                        simp only [seen, obOp]
                        rintro h4
                        replace h4 : ρ (.tmp 4) = .pointer (some ⟨k, 0, none⟩) := h4.trans rfl
                        exact rel_value (by simp [go_sem, h4, c0b W hC, c1b W hC]) hC
                      refine ob_det (c := .int .i64 (i : Nat)) ?_ ?_
                      · intro ρ W hk hC
                        simp only [seen, obOp]
                        rintro h13
                        replace h13 : ρ (.tmp 13) = .int .i64 (i : Nat) := h13.trans rfl
                        exact rel_value (by simp [go_sem, h13]) hC
                      refine ob_det (c := .pointer (some ⟨q, i, none⟩)) ?_ ?_
                      · intro ρ W hk hC
                        simp only [seen, obOp, List.getD_cons_zero]
                        rintro h12 h159
                        replace h12 : ρ (.tmp 12) = .pointer (some ⟨q, 0, none⟩) := h12.trans rfl
                        exact rel_value (by simp [go_sem, h12, h159, hi7]) hC
                      refine ob_det (c := .int .i64 t) ?_ ?_
                      · intro ρ W hk hC
                        simp only [seen, obOp, List.getD_cons_zero]
                        rintro h160
                        exact rel_value (by simp [go_sem, h160, q0b W hC]) hC
                      refine ob_det (c := .int .i64 (t - 1)) ?_ ?_
                      · intro ρ W hk hC
                        simp only [seen, obOp, List.getD_cons_zero]
                        rintro h161
                        exact rel_value (by simp [go_sem, h161, hk.const, htw]) hC
                      refine ⟨fun v w' => BitsV w' v (bl ++ bitsF [(t - 1, 10)]), fun _ _ _ h k => h.below k, ?_, ?_⟩
                      · intro ρ W hk hC
                        simp only [seen, obOp, List.getD_cons_zero, List.getD_cons_succ]
                        rintro h158 h162
                        refine rel_enter (f := 27) (args := #[.agg #[.slice A n cp, .int .i64 (N : Nat)], .int .i64 (t - 1), .int .i64 10]) (by simp [go_sem, h158, h162, hk.const, hk.func]) ((put8_next (fs := []) (t - 1) 10 (HV.out.below hC) HF.out (by have := HL.out; simp [widF]; omega)).mono ?_)
                        rintro e w9 ⟨v, rfl, hb, b9⟩
                        exact ⟨_, rfl, hC.step b9, b9, hb⟩
                      intro vs w5 hC5
                      simp only [endSeen, List.getD_cons_zero]
                      intro hT
                      simp only [writeAll, List.setIfInBounds_toArray, List.set_cons_zero, List.set_cons_succ]
                      obtain ⟨A4, n4, c4, N4, h40, e4, m4, o4⟩ := hT
                      rw [show vs 163 = _ from h40]
                      have s5 := H.out.next hC5
                      have y0 : w5.cell? ⟨k, 0, none⟩ = some (.slice A n cp) := by simp [World.cell?, s5.bx]
                      have y1 : w5.cell? ⟨k, 1, none⟩ = some (.int .i64 (N : Nat)) := by simp [World.cell?, s5.bx]
                      have yl := (Array.getElem?_eq_some_iff.1 s5.bx).1
                      have yf : ∀ o, w5.frozen? ⟨k, o, none⟩ = false := fun o => frozen_of_row _ _ _ _ _ s5.bx
                      have H5 := Lib.hid (s5.put ⟨A4, n4, c4, N4, rfl, e4, m4, o4⟩)
                      have hq5 := (hC5.block q (Array.getElem?_eq_some_iff.1 HQ.out).1).trans HQ.out
                      clear q0b HV
                      clear s5 e4 m4 o4 h40 hC5 c0b c1b H
                      gi_wp2
                      go_wp2_with fail
                      clear y0 y1 yl yf
                      go_roundw
                      case measure => simp [intOf]; omega
                      case rel => exact ⟨i + 1, n4, c4, N4, A4, by omega, by go_num, by rw [flat_take tmF HC.out, ← List.append_assoc, bitsF_append, ← HBL.out]; exact H5, Lib.hid (by
                        have h1 := HKQ.out
                        rw [Below.heap_setCell _ _ _ _ (show q ≠ k by omega), Below.heap_setCell _ _ _ _ (show q ≠ k by omega)]
                        exact hq5)⟩
                    · obtain rfl : i = 7 := by omega
                      have hi7 : ¬ ((7 : Nat) : Int) < 7 := by omega
                      have ht : L.times.take 7 = L.times := List.take_of_length_le (by simp [Lay.times])
                      rw [ht] at H
                      have H : Hid (P8 g k L ⟨a0, a1, a2, a3, p0, p1, p2, p3⟩ w wr A n cp N (bitsF (fieldsL L))) := H
                      have c0 : wr.cell? ⟨k, 0, none⟩ = some (.slice A n cp) := by simp [World.cell?, H.out.bx]
                      have c1 : wr.cell? ⟨k, 1, none⟩ = some (.int .i64 (N : Nat)) := by simp [World.cell?, H.out.bx]
                      have cl := (Array.getElem?_eq_some_iff.1 H.out.bx).1
                      obtain ⟨A9, n9, c9, N9, he9, hN9, hn9, ho9⟩ := H.out.bv
                      cases he9
                      have HPD := Lib.hid (rbPad_any A n cp (bitsF (fieldsL L)) N wr hn9 hN9 (row_at hn9 ho9) (by have := pre_len HRL.out (List.prefix_rfl (l := fieldsL L)); omega))
                      have hn200 : n ≤ 1000 := by have := pre_len HRL.out (List.prefix_rfl (l := fieldsL L)); rw [hn9, pack_length]; omega
                      have HN9 := Lib.hid hn9
                      clear hN9 hn9 ho9 hi7 ht
                      have d0 : ((7 : Nat) : Int) = 7 := rfl
                      rw [d0]
                      go_wp2_with fail
                      (with_reducible refine HPD.out.mono ?_)
                      rintro e w7 ⟨A7, c7, M, rfl, ho7, b7⟩
                      have s7 := H.out.next b7
                      have y0 : w7.cell? ⟨k, 0, none⟩ = some (.slice A n cp) := by simp [World.cell?, s7.bx]
                      have y1 : w7.cell? ⟨k, 1, none⟩ = some (.int .i64 (N : Nat)) := by simp [World.cell?, s7.bx]
                      have yl := (Array.getElem?_eq_some_iff.1 s7.bx).1
                      have yf : ∀ o, w7.frozen? ⟨k, o, none⟩ = false := fun o => frozen_of_row _ _ _ _ _ s7.bx
                      have hk7 := heap_setCell_same _ k 1 _ _ (.int .i64 (M : Nat)) (heap_setCell_same _ k 0 _ _ (.slice A7 n c7) s7.bx)
                      have ho7' := keep_box (i := 1) (u := .int .i64 (M : Nat)) (heap_setCell_same _ k 0 _ _ (.slice A7 n c7) s7.bx) (keep_box (i := 0) (u := .slice A7 n c7) s7.bx ho7)
                      have hb7 : Below g w ((w7.setCell ⟨k, 0, none⟩ (.slice A7 n c7)).setCell ⟨k, 1, none⟩ (.int .i64 (M : Nat))) := by
                        have := s7.lt
                        exact (s7.below.setCell (by dsimp only; omega) _).setCell (by dsimp only; omega) _
                      obtain ⟨Z, hZ⟩ : ∃ Z, Z = (w7.setCell ⟨k, 0, none⟩ (.slice A7 n c7)).setCell ⟨k, 1, none⟩ (.int .i64 (M : Nat)) := ⟨_, rfl⟩
                      rw [← hZ] at hk7 ho7' hb7
                      have hgz : g ≤ Z.heap.size := by
                        have h1 := s7.lt
                        have h2 := (Array.getElem?_eq_some_iff.1 hk7).1
                        omega
                      have HZ := Lib.hid (⟨hk7, ho7', hb7, hgz⟩ : _ ∧ _ ∧ _ ∧ _)
                      have HZS := Lib.hid (show Z.heap.size = w7.heap.size by rw [hZ]; simp [World.setCell])
                      obtain ⟨i0, z0, hi0, hz1, hs1, hs2, hs3⟩ := info_u8
                      have HI := Lib.hid (⟨hi0, hz1, hs1, hs2, hs3⟩ : _ ∧ _ ∧ _ ∧ _ ∧ _)
                      clear hk7 ho7' hb7 s7 ho7 b7 HPD hi0 hz1 hs1 hs2 hs3 hgz H
                      go_wp2_with (at_builtin; refine Hid.out ?_)
                      refine Lib.hid ?_
                      rw [← hZ]
                      clear hZ y0 y1 yl yf
                      have hAt : At Z 1 bEnc A7 (bytesL L) := row_at HN9.out HZ.out.2.1
                      refine wpList_append_at (enc := bEnc) rfl _ _ _ rfl Z.heap.size 5 i0 z0 1 i0.bytes Tryd.underlying30 HI.out.1 HI.out.2.1 HI.out.2.2.1 rfl HI.out.2.2.2.1 (by decide) (.slice (some ⟨Z.heap.size, 0, none⟩) 0 0) 0 [] (by simp [go_sem, HZS.out]) (World.ownsRow_lit Z #[] 0 (Nat.le_refl _) (by unfold maxLen; omega) rfl) A7 n c7 (bytesL L) HN9.out (by simp [go_sem]) (hAt.below bself) (fun _ => rfl) u8_one (by unfold maxLen; omega) ?_ (by simp) ?_
                      · have h2 := Nat.mul_le_mul (show 0 + n ≤ 1000 by omega) HI.out.2.2.2.2
                        omega
                      intro v' V hr hgv
                      have bV : Below Z.heap.size Z V := bgrown (World.ownsRow_lit (base := Z.heap.size) (size := 1) Z #[] 0 (Nat.le_refl _) (by unfold maxLen; omega) rfl) hgv bself (by simp)
                      rw [Nat.zero_add, List.nil_append] at hr
                      have HVV := Lib.hid (⟨hr, bV⟩ : _ ∧ _)
                      clear hr hgv bV hAt
                      go_wp2_with fail
                      have hgw := HG.out
                      have hn9 : n = (bytesL L).length := HN9.out
                      have hrow := owns_base HVV.out.1 HZ.out.2.2.2
                      rw [hn9, hgw] at hrow
                      have hbf : Below w.heap.size w V := by
                        rw [← hgw]
                        exact HZ.out.2.2.1.trans (HVV.out.2.mono HZ.out.2.2.2)
                      exact bodyPost_ret (v := .tuple #[v', .int .i64 0]) (by simp [results, Tryd.results10, go_sem]) rfl ⟨.inr ⟨HRL.out, v', rfl, hrow⟩, hbf⟩
end Go.Proofs.YtpnnbihofoomeaaDoor
