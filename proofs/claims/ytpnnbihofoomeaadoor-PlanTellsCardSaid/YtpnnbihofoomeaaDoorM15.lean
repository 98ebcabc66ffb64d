/-
  lockbarref08.read: a layout.
-/
import Derived.Test.YtpnnbihofoomeaaDoorM14

namespace Go.Proofs.YtpnnbihofoomeaaDoor
open Go.RowKit Go.Shelf

section
variable {bs : List Nat} {N : Nat} {A : Option Addr} {n cap rb : Nat} {s s' s0 : Nat × Bool}
structure LSu (bs : List Nat) (N : Nat) (A : Option Addr) (n cap rb : Nat) (w : World) (s : Nat × Bool) (L : Lay) (p : Where) (es : List (Ext' × Value)) (W : World) : Prop where
  rd : RfAt bs N A n cap rb s W
  box : W.heap[w.heap.size + 1]? = some (.cells (L.cells p).toArray 29 (0, 0))
  zr : W.heap[w.heap.size]? = some (.cells (noL.cells noW).toArray 29 (0, 0))
  only : Only rb w W
  own : Owned w.heap.size W p L es
  lt : rb < w.heap.size
variable {w : World} {L : Lay} {p : Where} {es : List (Ext' × Value)} {W W' : World}
theorem LSu.next (h : LSu bs N A n cap rb w s L p es W) (r : RfAt bs N A n cap rb s' W') (k : Only rb W W') : LSu bs N A n cap rb w s' L p es W' :=
  ⟨r, k.keep h.box (by have := h.lt; omega), k.keep h.zr (by have := h.lt; omega), h.only.trans k, h.own.only k h.lt, h.lt⟩
theorem LSu.below (h : LSu bs N A n cap rb w s L p es W) (k : Below W.heap.size W W') : LSu bs N A n cap rb w s L p es W' :=
  h.next (h.rd.below k) (Only.of_below k)
theorem LSu.grow {i : Nat} {v v0 : Value} {L' : Lay} {p' : Where} {es' : List (Ext' × Value)} {e : TypeId} {size m : Nat} {xs : List Value} (r0 : RfAt bs N A n cap rb s0 w) (h : LSu bs N A n cap rb w s L p es W) (hr : W.ownsRow w.heap.size e size v0 m xs) (g : W.grownBy W' v0.ownBlock)
    (ho : Owned w.heap.size W' p' L' es') (hc : (L.cells p).set i v = L'.cells p') (e1 : e ≠ 29) (e3 : e ≠ 84) : LSu bs N A n cap rb w s L' p' es' (W'.setCell ⟨w.heap.size + 1, i, none⟩ v) := by
  have hbx := heap_grown hr g h.box e1
  have hzx := heap_grown hr g h.zr e1
  have hrx := heap_grown hr g h.rd.bx e3
  have hox : Only rb w W' := h.only.grown hr (Nat.le_refl _) g
  have hlt := h.lt
  have hpos := h.rd.pos
  refine ⟨?_, ?_, (Below.heap_setCell _ _ _ _ (by dsimp only; omega)).trans hzx, hox.setNew (Nat.le_succ _), ho.kept (set_others W' ⟨w.heap.size + 1, i, none⟩ v) hbx (by decide) (by decide) (by decide) (by decide) (by decide), h.lt⟩
  · refine r0.frame (hox.setNew (Nat.le_succ _)) ?_ hpos
    exact (Below.heap_setCell _ _ _ _ (by dsimp only; omega)).trans hrx
  · rw [heap_setCell_same _ _ _ _ _ _ hbx, ← hc]
    simp
theorem LSu.setBox {i : Nat} {v : Value} {L' : Lay} (r0 : RfAt bs N A n cap rb s0 w) (h : LSu bs N A n cap rb w s L p es W) (ho : Owned w.heap.size W p L' es) (hc : (L.cells p).set i v = L'.cells p) : LSu bs N A n cap rb w s L' p es (W.setCell ⟨w.heap.size + 1, i, none⟩ v) := by
  have hlt := h.lt
  refine ⟨?_, ?_, (Below.heap_setCell _ _ _ _ (by dsimp only; omega)).trans h.zr, h.only.setNew (Nat.le_succ _), ho.kept (set_others W ⟨w.heap.size + 1, i, none⟩ v) h.box (by decide) (by decide) (by decide) (by decide) (by decide), h.lt⟩
  · refine r0.frame (h.only.setNew (Nat.le_succ _)) ?_ h.rd.pos
    exact (Below.heap_setCell _ _ _ _ (by dsimp only; omega)).trans h.rd.bx
  · rw [heap_setCell_same _ _ _ _ _ _ h.box, ← hc]
    simp
/-- A store elsewhere, into a block of one's own of other type. -/
theorem LSu.other {g i : Nat} {v : Value} {cs : Array Value} (r0 : RfAt bs N A n cap rb s0 w) (h : LSu bs N A n cap rb w s L p es W) (hg : W.heap[g]? = some (.cells cs 76 (0, 0))) (hw : w.heap.size ≤ g) : LSu bs N A n cap rb w s L p es (W.setCell ⟨g, i, none⟩ v) := by
  have hlt := h.lt
  have n1 : w.heap.size + 1 ≠ g := fun e => by have := h.box; rw [e, hg] at this; cases this
  have n2 : w.heap.size ≠ g := fun e => by have := h.zr; rw [e, hg] at this; cases this
  refine ⟨?_, (Below.heap_setCell _ _ _ _ n1).trans h.box, (Below.heap_setCell _ _ _ _ n2).trans h.zr, h.only.setNew hw, h.own.kept (set_others W ⟨g, i, none⟩ v) hg (by decide) (by decide) (by decide) (by decide) (by decide), h.lt⟩
  refine r0.frame (h.only.setNew hw) ?_ h.rd.pos
  exact (Below.heap_setCell _ _ _ _ (by dsimp only; omega)).trans h.rd.bx
def tmsV (ts : List Int) : Array Value := #[.int .i64 (ts.getD 0 0), .int .i64 (ts.getD 1 0), .int .i64 (ts.getD 2 0), .int .i64 (ts.getD 3 0), .int .i64 (ts.getD 4 0), .int .i64 (ts.getD 5 0), .int .i64 (ts.getD 6 0)]
theorem tms_set {ts : List Int} {j : Nat} {x : Int} (hj : j < 7) (h : ts.length = j) : (tmsV ts).setIfInBounds j (.int .i64 x) = tmsV (ts ++ [x]) := by
  subst h
  rcases ts with _ | ⟨t0, _ | ⟨t1, _ | ⟨t2, _ | ⟨t3, _ | ⟨t4, _ | ⟨t5, _ | ⟨t6, ts⟩⟩⟩⟩⟩⟩⟩
  all_goals first | rfl | (simp only [List.length_cons] at hj; omega)
theorem tms_get {ts : List Int} {j : Nat} (hj : j < 7) : (tmsV ts)[j]? = some (.int .i64 (ts.getD j 0)) := by
  rcases (show j = 0 ∨ j = 1 ∨ j = 2 ∨ j = 3 ∨ j = 4 ∨ j = 5 ∨ j = 6 by omega) with rfl | rfl | rfl | rfl | rfl | rfl | rfl <;> rfl
theorem list7 {ts : List Int} (h : ts.length = 7) : ∃ t0 t1 t2 t3 t4 t5 t6, ts = [t0, t1, t2, t3, t4, t5, t6] := by
  match ts, h with
  | [t0, t1, t2, t3, t4, t5, t6], _ => exact ⟨t0, t1, t2, t3, t4, t5, t6, rfl⟩

set_option maxRecDepth 100000 in
set_option maxHeartbeats 64000000 in
theorem read8_any (w : World) (h : RfAt bs N A n cap rb s w) :
    Calls Tryd.prog 36 #[.pointer (some ⟨rb, 0, none⟩)] w (RfPost bs N A n cap rb (fun (L : Lay) v W' => ∃ p es, v = L.val p ∧ Owned w.heap.size W' p L es) (mLay (bitB bs) N s) w) := by
  have H0 := Lib.hid h
  have hrl := h.lt
  obtain ⟨U, hU⟩ : ∃ U, U = (w.alloc (.cells (noL.cells noW).toArray 29)).alloc (.cells (noL.cells noW).toArray 29) := ⟨_, rfl⟩
  have hb0 : Below w.heap.size w U := by rw [hU]; exact bchain bself bself
  have LSI : LSu bs N A n cap rb w s noL noW [] U := by
    refine ⟨h.below hb0, ?_, ?_, Only.of_below hb0, owned_no _ _, hrl⟩
    · rw [hU]
      have := World.alloc_heap_new (w.alloc (.cells (noL.cells noW).toArray 29)) (.cells (noL.cells noW).toArray 29)
      rw [World.size_alloc] at this
      exact this
    · rw [hU]
      exact (bself.block _ (by simp)).trans (World.alloc_heap_new _ _)
  have G0 := Lib.hid LSI
  clear h LSI hb0
  go_enter Tryd.func36, Tryd.ntmps36
  go_wp2_with fail
  have hU' : U = (w.alloc (.cells #[.slice none 0 0, .slice none 0 0, .slice none 0 0, .slice none 0 0, .int .i64 0, .int .i64 0, .int .i64 0, .int .i64 0, .int .i64 0, .int .i64 0, .int .i64 0] 29)).alloc (.cells #[.slice none 0 0, .slice none 0 0, .slice none 0 0, .slice none 0 0, .int .i64 0, .int .i64 0, .int .i64 0, .int .i64 0, .int .i64 0, .int .i64 0, .int .i64 0] 29) := hU
  rw [← hU']
  clear hU hU'
  (with_reducible refine (num8 5 5 rfl _ G0.out.rd (by decide)).mono ?_)
  intro e W1 hp
  obtain ⟨⟨v, rfl, rfl⟩, rr, kk⟩ := hp
  obtain ⟨m0, hm0⟩ : ∃ m, m = mN 5 (bitB bs) N s := ⟨_, rfl⟩
  have hn0 : m0.1 < 2 ^ 5 := by rw [hm0]; exact mN_lt 5 _ _ _
  rw [← hm0] at rr ⊢
  obtain ⟨n0, s1⟩ := m0
  dsimp only at rr hn0 ⊢
  have G1 := Lib.hid (⟨G0.out.next rr kk, hm0⟩ : _ ∧ _)
  clear rr kk hm0
  go_wp2_with fail
  (with_reducible refine (num8 4 4 rfl _ G1.out.1.rd (by decide)).mono ?_)
  intro e W2 hp
  obtain ⟨⟨v, rfl, rfl⟩, rr, kk⟩ := hp
  obtain ⟨m1, hm1⟩ : ∃ m, m = mN 4 (bitB bs) N s1 := ⟨_, rfl⟩
  have hn1 : m1.1 < 2 ^ 4 := by rw [hm1]; exact mN_lt 4 _ _ _
  rw [← hm1] at rr ⊢
  obtain ⟨n1, s2⟩ := m1
  dsimp only at rr hn1 ⊢
  have G2 := Lib.hid (⟨G1.out.1.next rr kk, hm1⟩ : _ ∧ _)
  clear rr kk hm1
  go_wp2_with fail
  (with_reducible refine (num8 4 4 rfl _ G2.out.1.rd (by decide)).mono ?_)
  intro e W3 hp
  obtain ⟨⟨v, rfl, rfl⟩, rr, kk⟩ := hp
  obtain ⟨m2, hm2⟩ : ∃ m, m = mN 4 (bitB bs) N s2 := ⟨_, rfl⟩
  have hn2 : m2.1 < 2 ^ 4 := by rw [hm2]; exact mN_lt 4 _ _ _
  rw [← hm2] at rr ⊢
  obtain ⟨n2, s3⟩ := m2
  dsimp only at rr hn2 ⊢
  have G3 := Lib.hid (⟨G2.out.1.next rr kk, hm2⟩ : _ ∧ _)
  clear rr kk hm2
  go_wp2_with fail
  (with_reducible refine (num8 5 5 rfl _ G3.out.1.rd (by decide)).mono ?_)
  intro e W4 hp
  obtain ⟨⟨v, rfl, rfl⟩, rr, kk⟩ := hp
  obtain ⟨m3, hm3⟩ : ∃ m, m = mN 5 (bitB bs) N s3 := ⟨_, rfl⟩
  have hn3 : m3.1 < 2 ^ 5 := by rw [hm3]; exact mN_lt 5 _ _ _
  rw [← hm3] at rr ⊢
  obtain ⟨n3, s4⟩ := m3
  dsimp only at rr hn3 ⊢
  have G4 := Lib.hid (⟨G3.out.1.next rr kk, hm3⟩ : _ ∧ _)
  clear rr kk hm3
  go_wp2_with fail
  have LS0 : Hid (LSu bs N A n cap rb w s4 (layOf [] [] [] [] []) ⟨none, none, none, none, 0, 0, 0, 0⟩ [] W4) := Lib.hid G4.out.1
  go_loopw [8] (fun cc wr => ∃ (j : Nat) (b : Nat × Bool) (xs : List Sec) (O : Option Addr) (oc : Nat), j ≤ n0 ∧ cc = .int .i64 j ∧ Hid (mMany mSec j (bitB bs) N s4 = (xs, b)) ∧ Hid (LSu bs N A n cap rb w b (layOf xs [] [] [] []) ⟨O, none, none, none, oc, 0, 0, 0⟩ [] wr)) (fun cc _ => n0 - (intOf cc).toNat)
  case atStart => exact ⟨0, s4, [], none, 0, Nat.zero_le _, rfl, Lib.hid rfl, LS0⟩
  case round =>
    obtain ⟨j, b, xs, O, oc, hj, rfl, HM, HS⟩ := hrel
    clear LS0
    by_cases hlt : j < n0
    · have hji : (j : Int) < (n0 : Int) := by omega
      have HLX := Lib.hid (mMany_len HM.out)
      go_upto_region 9 with fail
      obtain ⟨X, hX⟩ : ∃ X, X = wr.drew := ⟨_, rfl⟩
      have HX : Hid (LSu bs N A n cap rb w b (layOf xs [] [] [] []) ⟨O, none, none, none, oc, 0, 0, 0⟩ [] X) := Lib.hid (HS.out.below (by rw [hX]; exact (Below.refl _ _).drew))
      have c0 : X.cell? ⟨w.heap.size + 1, 0, none⟩ = some (.slice O xs.length oc) := (boxL_heap HX.out.box).2 0 _ rfl
      refine wp_region_head 5 (fun W => W.cell? ⟨w.heap.size + 1, 0, none⟩ = some (.slice O xs.length oc)) (by kernel_rfl) (by kernel_rfl) (by kernel_rfl) (by kernel_rfl) (by kernel_rfl) (by kernel_rfl) (by rw [← hX]; exact c0) (fun hHeld => ?_)
      simp only [List.take_succ_cons, List.take_zero, List.drop_succ_cons, List.drop_zero]
      rw [← hX] at hHeld ⊢
      clear hX HS c0
      refine wpAnyH_take (i := 0) (v := .pointer (some ⟨w.heap.size + 1, 0, none⟩)) rfl (by kernel_rfl) (by kernel_rfl) (by kernel_rfl) (fun _ _ _ h => h) (Or.inl ⟨by rfl, by (intro W hS; (try dsimp only at hS); go_simp)⟩) hHeld ?_
      try simp only [Act.put, List.setIfInBounds_toArray]
      refine wpAnyH_take (i := 1) (v := .slice O xs.length oc) rfl (by kernel_rfl) (by kernel_rfl) (by kernel_rfl) (fun _ _ _ h => h) (Or.inl ⟨by rfl, by (intro W hS; (try dsimp only at hS); go_simp)⟩) hHeld ?_
      try simp only [Act.put]
      refine wpAnyH_take (i := 2) (v := .pointer (some ⟨rb, 0, none⟩)) rfl (by kernel_rfl) (by kernel_rfl) (by kernel_rfl) (fun _ _ _ h => h) (Or.inl ⟨by rfl, by (intro W hS; (try dsimp only at hS); go_simp)⟩) hHeld ?_
      try simp only [Act.put]
      refine wpAnyH_ready (rs := [3]) (by kernel_rfl) (by simp) ?_
      refine AllReadyH.cons rfl (fun K hK => ?_) AllReadyH.nil
      go_simp
      go_at_call 75
      refine (section9_any X HX.out.rd).mono ?_
      intro e Y hp
      obtain ⟨⟨v, rfl, rfl, hk0, hk1⟩, rr, kk⟩ := hp
      obtain ⟨mx, hmx⟩ : ∃ m, m = mSec (bitB bs) N b := ⟨_, rfl⟩
      rw [← hmx] at rr hk0 hk1 ⊢
      obtain ⟨x, bz⟩ := mx
      dsimp only at rr hk0 hk1 ⊢
      have HEE := Lib.hid hmx
      have HY : Hid (LSu bs N A n cap rb w bz (layOf xs [] [] [] []) ⟨O, none, none, none, oc, 0, 0, 0⟩ [] Y) := Lib.hid (HX.out.next rr kk)
      have c0 : Y.cell? ⟨w.heap.size + 1, 0, none⟩ = some (.slice O xs.length oc) := (boxL_heap HY.out.box).2 0 _ rfl
      have hyl : w.heap.size + 1 < Y.heap.size := (Array.getElem?_eq_some_iff.1 HY.out.box).1
      have hYb : Below Y.heap.size Y (Y.alloc (.cells ((x.enc : List Value)).toArray 69)) := bself
      have HZ := Lib.hid (HY.out.below hYb)
      have HKK := Lib.hid (⟨hk0, hk1⟩ : 0 ≤ x.k ∧ x.k ≤ 255)
      clear hk0 hk1
      clear hYb
      clear rr kk HX hmx
      (try dsimp only)
      refine hK.out _ _ c0 (fun hHeld => ?_)
      clear hK K
      try simp only [Act.put, List.setIfInBounds_toArray, List.set_cons_zero, List.set_cons_succ]
      refine wpAnyH_ready (rs := [4]) (by kernel_rfl) (by simp) ?_
      refine AllReadyH.cons rfl (fun K hK => ?_) AllReadyH.nil
      simp only [Sec.enc]
      go_simp
      refine hK.out _ _ ?_ (fun hHeld => ?_)
      · exact (boxL_heap HZ.out.box).2 0 _ rfl
      clear hK K hHeld c0
      try simp only [Act.put, List.setIfInBounds_toArray, List.set_cons_zero, List.set_cons_succ]
      refine wpAnyH_done (by kernel_rfl) ?_ _
      change wpList _ _ _ _ _ _
      obtain ⟨i0, z0, hi, hz, hs1, hs2, hs3⟩ := info_Section
      have HI := Lib.hid (⟨hi, hz, hs1, hs2, hs3⟩ : _ ∧ _ ∧ _ ∧ _ ∧ _)
      clear hi hz hs1 hs2 hs3
      refine wpList_append_at (enc := Sec.enc) rfl _ _ _ rfl w.heap.size 69 i0 z0 11 i0.bytes Tryd.underlying22 HI.out.1 HI.out.2.1 HI.out.2.2.1 rfl HI.out.2.2.2.1 (by decide) (.slice O xs.length oc) xs.length (xs.flatMap Sec.enc) rfl HZ.out.own.secs (some ⟨Y.heap.size, 0, none⟩) 1 1 [x] rfl rfl (at_one rfl) (fun _ => rfl) ?b1 (by have := HLX.out; unfold maxLen; omega) ?b2 (by simp; omega) ?b3
      case b1 => exact sec_one
      case b2 =>
        have h2 := Nat.mul_le_mul (show xs.length + 1 ≤ 33 by have := HLX.out; omega) HI.out.2.2.2.2
        omega
      case b3 =>
        intro v' V hr hgr
        obtain ⟨A', d', rfl⟩ := ownsV hr
        obtain ⟨_, HA⟩ := HZ.out.own.addS hgr hr HKK.out
        have HG := Lib.hid (LSu.grow (L' := (layOf (xs ++ [x]) [] [] [] [])) (p' := ⟨A', none, none, none, d', 0, 0, 0⟩) (i := 0) (v := .slice A' (xs.length + 1) d') H0.out HZ.out HZ.out.own.secs hgr HA (by simp [Lay.cells, layOf]) (by decide) (by decide))
        have hvx := heap_grown HZ.out.own.secs hgr HZ.out.box (by decide)
        have v1 : V.cell? ⟨w.heap.size + 1, 0, none⟩ = some (.slice O xs.length oc) := (boxL_heap hvx).2 0 _ rfl
        have v2 : V.frozen? ⟨w.heap.size + 1, 0, none⟩ = false := frozen_of_row _ _ _ _ _ hvx
        have v3 : w.heap.size + 1 < V.heap.size := (Array.getElem?_eq_some_iff.1 hvx).1
        clear hvx hr hgr HA
        go_wp2_with fail
        go_roundw
        case measure => simp [intOf]; omega
        case rel => exact ⟨j + 1, bz, xs ++ [x], A', d', by omega, by go_num, Lib.hid (mMany_next HM.out HEE.out.symm), HG⟩
    · have hji : ¬ (j : Int) < (n0 : Int) := by omega
      have hjn : n0 = j := by omega
      subst hjn
      obtain ⟨O0, h⟩ : ∃ x, x = O := ⟨_, rfl⟩
      subst h
      obtain ⟨o0, h⟩ : ∃ x, x = oc := ⟨_, rfl⟩
      subst h
      obtain ⟨b0', h⟩ : ∃ x, x = b := ⟨_, rfl⟩
      subst h
      obtain ⟨A0, h⟩ : ∃ x, x = xs := ⟨_, rfl⟩
      subst h
      obtain ⟨V0, h⟩ : ∃ x, x = wr := ⟨_, rfl⟩
      subst h
      have E5 := HM
      have LS1 := HS
      clear HM HS hj
      go_wp2_with fail
      go_loopw [9] (fun cc wr => ∃ (j : Nat) (b : Nat × Bool) (xs : List Prt) (O : Option Addr) (oc : Nat), j ≤ n1 ∧ cc = .int .i64 j ∧ Hid (mMany mPort j (bitB bs) N b0' = (xs, b)) ∧ Hid (LSu bs N A n cap rb w b (layOf A0 xs [] [] []) ⟨O0, O, none, none, o0, oc, 0, 0⟩ [] wr)) (fun cc _ => n1 - (intOf cc).toNat)
      case atStart => exact ⟨0, b0', [], none, 0, Nat.zero_le _, rfl, Lib.hid rfl, LS1⟩
      case round =>
        obtain ⟨j, b, xs, O, oc, hj, rfl, HM, HS⟩ := hrel
        clear LS1
        by_cases hlt : j < n1
        · have hji : (j : Int) < (n1 : Int) := by omega
          have HLX := Lib.hid (mMany_len HM.out)
          go_upto_region 13 with fail
          obtain ⟨X, hX⟩ : ∃ X, X = wr.drew := ⟨_, rfl⟩
          have HX : Hid (LSu bs N A n cap rb w b (layOf A0 xs [] [] []) ⟨O0, O, none, none, o0, oc, 0, 0⟩ [] X) := Lib.hid (HS.out.below (by rw [hX]; exact (Below.refl _ _).drew))
          have c0 : X.cell? ⟨w.heap.size + 1, 1, none⟩ = some (.slice O xs.length oc) := (boxL_heap HX.out.box).2 1 _ rfl
          refine wp_region_head 6 (fun W => W.cell? ⟨w.heap.size + 1, 1, none⟩ = some (.slice O xs.length oc)) (by kernel_rfl) (by kernel_rfl) (by kernel_rfl) (by kernel_rfl) (by kernel_rfl) (by kernel_rfl) (by rw [← hX]; exact c0) (fun hHeld => ?_)
          simp only [List.take_succ_cons, List.take_zero, List.drop_succ_cons, List.drop_zero]
          rw [← hX] at hHeld ⊢
          clear hX HS c0
          refine wpAnyH_take (i := 0) (v := .pointer (some ⟨w.heap.size + 1, 1, none⟩)) rfl (by kernel_rfl) (by kernel_rfl) (by kernel_rfl) (fun _ _ _ h => h) (Or.inl ⟨by rfl, by (intro W hS; (try dsimp only at hS); go_simp)⟩) hHeld ?_
          try simp only [Act.put, List.setIfInBounds_toArray]
          refine wpAnyH_take (i := 1) (v := .slice O xs.length oc) rfl (by kernel_rfl) (by kernel_rfl) (by kernel_rfl) (fun _ _ _ h => h) (Or.inl ⟨by rfl, by (intro W hS; (try dsimp only at hS); go_simp)⟩) hHeld ?_
          try simp only [Act.put]
          refine wpAnyH_take (i := 2) (v := .pointer (some ⟨rb, 0, none⟩)) rfl (by kernel_rfl) (by kernel_rfl) (by kernel_rfl) (fun _ _ _ h => h) (Or.inl ⟨by rfl, by (intro W hS; (try dsimp only at hS); go_simp)⟩) hHeld ?_
          try simp only [Act.put]
          refine wpAnyH_ready (rs := [3]) (by kernel_rfl) (by simp) ?_
          refine AllReadyH.cons rfl (fun K hK => ?_) AllReadyH.nil
          go_simp
          go_at_call 76
          refine (port8_any X HX.out.rd).mono ?_
          intro e Y hp
          obtain ⟨⟨v, rfl, rfl⟩, rr, kk⟩ := hp
          obtain ⟨mx, hmx⟩ : ∃ m, m = mPort (bitB bs) N b := ⟨_, rfl⟩
          rw [← hmx] at rr ⊢
          obtain ⟨x, bz⟩ := mx
          dsimp only at rr ⊢
          have HEE := Lib.hid hmx
          have HY : Hid (LSu bs N A n cap rb w bz (layOf A0 xs [] [] []) ⟨O0, O, none, none, o0, oc, 0, 0⟩ [] Y) := Lib.hid (HX.out.next rr kk)
          have c0 : Y.cell? ⟨w.heap.size + 1, 1, none⟩ = some (.slice O xs.length oc) := (boxL_heap HY.out.box).2 1 _ rfl
          have hyl : w.heap.size + 1 < Y.heap.size := (Array.getElem?_eq_some_iff.1 HY.out.box).1
          have hYb : Below Y.heap.size Y (Y.alloc (.cells ((x.enc : List Value)).toArray 71)) := bself
          have HZ := Lib.hid (HY.out.below hYb)
          clear hYb
          clear rr kk HX hmx
          (try dsimp only)
          refine hK.out _ _ c0 (fun hHeld => ?_)
          clear hK K
          try simp only [Act.put, List.setIfInBounds_toArray, List.set_cons_zero, List.set_cons_succ]
          refine wpAnyH_ready (rs := [4]) (by kernel_rfl) (by simp) ?_
          refine AllReadyH.cons rfl (fun K hK => ?_) AllReadyH.nil
          go_simp
          refine hK.out _ _ c0 (fun hHeld => ?_)
          clear hK K
          try simp only [Act.put, List.setIfInBounds_toArray, List.set_cons_zero, List.set_cons_succ]
          refine wpAnyH_ready (rs := [5]) (by kernel_rfl) (by simp) ?_
          refine AllReadyH.cons rfl (fun K hK => ?_) AllReadyH.nil
          go_simp
          refine hK.out _ _ ?_ (fun hHeld => ?_)
          · exact (boxL_heap HZ.out.box).2 1 _ rfl
          clear hK K hHeld c0
          try simp only [Act.put, List.setIfInBounds_toArray, List.set_cons_zero, List.set_cons_succ]
          refine wpAnyH_done (by kernel_rfl) ?_ _
          change wpList _ _ _ _ _ _
          obtain ⟨i0, z0, hi, hz, hs1, hs2, hs3⟩ := info_Signal
          have HI := Lib.hid (⟨hi, hz, hs1, hs2, hs3⟩ : _ ∧ _ ∧ _ ∧ _ ∧ _)
          clear hi hz hs1 hs2 hs3
          refine wpList_append_at (enc := Prt.enc) rfl _ _ _ rfl w.heap.size 71 i0 z0 2 i0.bytes Tryd.underlying23 HI.out.1 HI.out.2.1 HI.out.2.2.1 rfl HI.out.2.2.2.1 (by decide) (.slice O xs.length oc) xs.length (xs.flatMap Prt.enc) rfl HZ.out.own.sigs (some ⟨Y.heap.size, 0, none⟩) 1 1 [x] rfl rfl (at_one rfl) (fun _ => rfl) ?b1 (by have := HLX.out; unfold maxLen; omega) ?b2 (by simp; omega) ?b3
          case b1 => exact prt_one
          case b2 =>
            have h2 := Nat.mul_le_mul (show xs.length + 1 ≤ 17 by have := HLX.out; omega) HI.out.2.2.2.2
            omega
          case b3 =>
            intro v' V hr hgr
            obtain ⟨A', d', rfl⟩ := ownsV hr
            obtain ⟨_, HA⟩ := HZ.out.own.addG hgr hr
            have HG := Lib.hid (LSu.grow (L' := (layOf A0 (xs ++ [x]) [] [] [])) (p' := ⟨O0, A', none, none, o0, d', 0, 0⟩) (i := 1) (v := .slice A' (xs.length + 1) d') H0.out HZ.out HZ.out.own.sigs hgr HA (by simp [Lay.cells, layOf]) (by decide) (by decide))
            have hvx := heap_grown HZ.out.own.sigs hgr HZ.out.box (by decide)
            have v1 : V.cell? ⟨w.heap.size + 1, 1, none⟩ = some (.slice O xs.length oc) := (boxL_heap hvx).2 1 _ rfl
            have v2 : V.frozen? ⟨w.heap.size + 1, 1, none⟩ = false := frozen_of_row _ _ _ _ _ hvx
            have v3 : w.heap.size + 1 < V.heap.size := (Array.getElem?_eq_some_iff.1 hvx).1
            clear hvx hr hgr HA
            go_wp2_with fail
            go_roundw
            case measure => simp [intOf]; omega
            case rel => exact ⟨j + 1, bz, xs ++ [x], A', d', by omega, by go_num, Lib.hid (mMany_next HM.out HEE.out.symm), HG⟩
        · have hji : ¬ (j : Int) < (n1 : Int) := by omega
          have hjn : n1 = j := by omega
          subst hjn
          obtain ⟨O1, h⟩ : ∃ x, x = O := ⟨_, rfl⟩
          subst h
          obtain ⟨o1, h⟩ : ∃ x, x = oc := ⟨_, rfl⟩
          subst h
          obtain ⟨b1', h⟩ : ∃ x, x = b := ⟨_, rfl⟩
          subst h
          obtain ⟨A1, h⟩ : ∃ x, x = xs := ⟨_, rfl⟩
          subst h
          obtain ⟨V1, h⟩ : ∃ x, x = wr := ⟨_, rfl⟩
          subst h
          have E6 := HM
          have LS2 := HS
          clear HM HS hj
          go_wp2_with fail
          go_loopw [10] (fun cc wr => ∃ (j : Nat) (b : Nat × Bool) (xs : List Ext') (O : Option Addr) (oc : Nat) (es : List (Ext' × Value)), j ≤ n2 ∧ cc = .int .i64 j ∧ Hid (mMany mExit j (bitB bs) N b1' = (xs, b)) ∧ Hid (LSu bs N A n cap rb w b (layOf A0 A1 xs [] []) ⟨O0, O1, O, none, o0, o1, oc, 0⟩ es wr)) (fun cc _ => n2 - (intOf cc).toNat)
          case atStart => exact ⟨0, b1', [], none, 0, [], Nat.zero_le _, rfl, Lib.hid rfl, LS2⟩
          case round =>
            obtain ⟨j, b, xs, O, oc, es, hj, rfl, HM, HS⟩ := hrel
            clear LS2
            by_cases hlt : j < n2
            · have hji : (j : Int) < (n2 : Int) := by omega
              have HLX := Lib.hid (mMany_len HM.out)
              go_upto_region 17 with fail
              obtain ⟨X, hX⟩ : ∃ X, X = wr.drew := ⟨_, rfl⟩
              have HX : Hid (LSu bs N A n cap rb w b (layOf A0 A1 xs [] []) ⟨O0, O1, O, none, o0, o1, oc, 0⟩ es X) := Lib.hid (HS.out.below (by rw [hX]; exact (Below.refl _ _).drew))
              have c0 : X.cell? ⟨w.heap.size + 1, 2, none⟩ = some (.slice O xs.length oc) := (boxL_heap HX.out.box).2 2 _ rfl
              refine wp_region_head 5 (fun W => W.cell? ⟨w.heap.size + 1, 2, none⟩ = some (.slice O xs.length oc)) (by kernel_rfl) (by kernel_rfl) (by kernel_rfl) (by kernel_rfl) (by kernel_rfl) (by kernel_rfl) (by rw [← hX]; exact c0) (fun hHeld => ?_)
              simp only [List.take_succ_cons, List.take_zero, List.drop_succ_cons, List.drop_zero]
              rw [← hX] at hHeld ⊢
              clear hX HS c0
              refine wpAnyH_take (i := 0) (v := .pointer (some ⟨w.heap.size + 1, 2, none⟩)) rfl (by kernel_rfl) (by kernel_rfl) (by kernel_rfl) (fun _ _ _ h => h) (Or.inl ⟨by rfl, by (intro W hS; (try dsimp only at hS); go_simp)⟩) hHeld ?_
              try simp only [Act.put, List.setIfInBounds_toArray]
              refine wpAnyH_take (i := 1) (v := .slice O xs.length oc) rfl (by kernel_rfl) (by kernel_rfl) (by kernel_rfl) (fun _ _ _ h => h) (Or.inl ⟨by rfl, by (intro W hS; (try dsimp only at hS); go_simp)⟩) hHeld ?_
              try simp only [Act.put]
              refine wpAnyH_take (i := 2) (v := .pointer (some ⟨rb, 0, none⟩)) rfl (by kernel_rfl) (by kernel_rfl) (by kernel_rfl) (fun _ _ _ h => h) (Or.inl ⟨by rfl, by (intro W hS; (try dsimp only at hS); go_simp)⟩) hHeld ?_
              try simp only [Act.put]
              refine wpAnyH_ready (rs := [3]) (by kernel_rfl) (by simp) ?_
              refine AllReadyH.cons rfl (fun K hK => ?_) AllReadyH.nil
              go_simp
              go_at_call 77
              refine (exit8_any X HX.out.rd).mono ?_
              intro e Y hp
              obtain ⟨⟨v, rfl, ov, rfl, hov⟩, rr, kk⟩ := hp
              obtain ⟨mx, hmx⟩ : ∃ m, m = mExit (bitB bs) N b := ⟨_, rfl⟩
              rw [← hmx] at rr hov ⊢
              obtain ⟨⟨xs0, xp0, xo0⟩, bz⟩ := mx
              dsimp only at rr hov ⊢
              have HEE := Lib.hid hmx
              have HY : Hid (LSu bs N A n cap rb w bz (layOf A0 A1 xs [] []) ⟨O0, O1, O, none, o0, o1, oc, 0⟩ es Y) := Lib.hid (HX.out.next rr kk)
              have c0 : Y.cell? ⟨w.heap.size + 1, 2, none⟩ = some (.slice O xs.length oc) := (boxL_heap HY.out.box).2 2 _ rfl
              have hyl : w.heap.size + 1 < Y.heap.size := (Array.getElem?_eq_some_iff.1 HY.out.box).1
              have hYb : Below Y.heap.size Y (Y.alloc (.cells (([.int .i64 xs0, .int .i64 xp0, ov] : List Value)).toArray 51)) := bself
              have HZ := Lib.hid (HY.out.below hYb)
              have HOV := Lib.hid (owns_below (owns_lower (base' := w.heap.size) hov (by have := HX.out.box; have := (Array.getElem?_eq_some_iff.1 this).1; omega)) hYb)
              have HOVS := Lib.hid (ownsV hov)
              clear hov
              clear hYb
              clear rr kk HX hmx
              (try dsimp only)
              refine hK.out _ _ c0 (fun hHeld => ?_)
              clear hK K
              try simp only [Act.put, List.setIfInBounds_toArray, List.set_cons_zero, List.set_cons_succ]
              refine wpAnyH_ready (rs := [4]) (by kernel_rfl) (by simp) ?_
              refine AllReadyH.cons rfl (fun K hK => ?_) AllReadyH.nil
              go_simp
              refine hK.out _ _ ?_ (fun hHeld => ?_)
              · exact (boxL_heap HZ.out.box).2 2 _ rfl
              clear hK K hHeld c0
              try simp only [Act.put, List.setIfInBounds_toArray, List.set_cons_zero, List.set_cons_succ]
              refine wpAnyH_done (by kernel_rfl) ?_ _
              change wpList _ _ _ _ _ _
              obtain ⟨i0, z0, hi, hz, hs1, hs2, hs3⟩ := info_Exit
              have HI := Lib.hid (⟨hi, hz, hs1, hs2, hs3⟩ : _ ∧ _ ∧ _ ∧ _ ∧ _)
              clear hi hz hs1 hs2 hs3
              refine wpList_append_at (enc := Ext'.enc) rfl _ _ _ rfl w.heap.size 51 i0 z0 3 i0.bytes Tryd.underlying24 HI.out.1 HI.out.2.1 HI.out.2.2.1 rfl HI.out.2.2.2.1 (by decide) (.slice O xs.length oc) xs.length (es.flatMap Ext'.enc) rfl HZ.out.own.exits (some ⟨Y.heap.size, 0, none⟩) 1 1 [((⟨xs0, xp0, xo0⟩, ov) : Ext' × Value)] rfl rfl (at_one rfl) (fun _ => rfl) ?b1 (by have := HLX.out; unfold maxLen; omega) ?b2 (by simp; omega) ?b3
              case b1 => exact ext_one HOVS.out
              case b2 =>
                have h2 := Nat.mul_le_mul (show xs.length + 1 ≤ 17 by have := HLX.out; omega) HI.out.2.2.2.2
                omega
              case b3 =>
                intro v' V hr hgr
                obtain ⟨A', d', rfl⟩ := ownsV hr
                obtain ⟨_, HA⟩ := HZ.out.own.addE hgr hr HOV.out
                have HG := Lib.hid (LSu.grow (L' := (layOf A0 A1 (xs ++ [(Ext'.mk xs0 xp0 xo0)]) [] [])) (p' := ⟨O0, O1, A', none, o0, o1, d', 0⟩) (i := 2) (v := .slice A' (xs.length + 1) d') H0.out HZ.out HZ.out.own.exits hgr HA (by simp [Lay.cells, layOf]) (by decide) (by decide))
                have hvx := heap_grown HZ.out.own.exits hgr HZ.out.box (by decide)
                have v1 : V.cell? ⟨w.heap.size + 1, 2, none⟩ = some (.slice O xs.length oc) := (boxL_heap hvx).2 2 _ rfl
                have v2 : V.frozen? ⟨w.heap.size + 1, 2, none⟩ = false := frozen_of_row _ _ _ _ _ hvx
                have v3 : w.heap.size + 1 < V.heap.size := (Array.getElem?_eq_some_iff.1 hvx).1
                clear hvx hr hgr HA
                go_wp2_with fail
                go_roundw
                case measure => simp [intOf]; omega
                case rel => exact ⟨j + 1, bz, xs ++ [(Ext'.mk xs0 xp0 xo0)], A', d', (es ++ [(Ext'.mk xs0 xp0 xo0, ov)]), by omega, by go_num, Lib.hid (mMany_next HM.out HEE.out.symm), HG⟩
            · have hji : ¬ (j : Int) < (n2 : Int) := by omega
              have hjn : n2 = j := by omega
              subst hjn
              obtain ⟨O2, h⟩ : ∃ x, x = O := ⟨_, rfl⟩
              subst h
              obtain ⟨o2, h⟩ : ∃ x, x = oc := ⟨_, rfl⟩
              subst h
              obtain ⟨b2', h⟩ : ∃ x, x = b := ⟨_, rfl⟩
              subst h
              obtain ⟨A2, h⟩ : ∃ x, x = xs := ⟨_, rfl⟩
              subst h
              obtain ⟨V2, h⟩ : ∃ x, x = wr := ⟨_, rfl⟩
              subst h
              have E7 := HM
              have LS3 := HS
              clear HM HS hj
              go_wp2_with fail
              go_loopw [11] (fun cc wr => ∃ (j : Nat) (b : Nat × Bool) (xs : List Flk) (O : Option Addr) (oc : Nat), j ≤ n3 ∧ cc = .int .i64 j ∧ Hid (mMany mFlank j (bitB bs) N b2' = (xs, b)) ∧ Hid (LSu bs N A n cap rb w b (layOf A0 A1 A2 xs []) ⟨O0, O1, O2, O, o0, o1, o2, oc⟩ es wr)) (fun cc _ => n3 - (intOf cc).toNat)
              case atStart => exact ⟨0, b2', [], none, 0, Nat.zero_le _, rfl, Lib.hid rfl, LS3⟩
              case round =>
                obtain ⟨j, b, xs, O, oc, hj, rfl, HM, HS⟩ := hrel
                clear LS3
                by_cases hlt : j < n3
                · have hji : (j : Int) < (n3 : Int) := by omega
                  have HLX := Lib.hid (mMany_len HM.out)
                  go_wp2_with fail
                  (with_reducible refine (num8 5 5 rfl _ HS.out.rd (by decide)).mono ?_)
                  intro e Y0 hp
                  obtain ⟨⟨v, rfl, rfl⟩, rr, kk⟩ := hp
                  obtain ⟨mm, hmm⟩ : ∃ m, m = mN 5 (bitB bs) N b := ⟨_, rfl⟩
                  rw [← hmm] at rr ⊢
                  obtain ⟨f1, b1⟩ := mm
                  dsimp only at rr ⊢
                  have F1 := Lib.hid hmm
                  have HS1 := Lib.hid (HS.out.next rr kk)
                  clear rr kk hmm HS
                  go_wp2_with fail
                  (with_reducible refine (num8 1 1 rfl _ HS1.out.rd (by decide)).mono ?_)
                  intro e Y1 hp
                  obtain ⟨⟨v, rfl, rfl⟩, rr, kk⟩ := hp
                  obtain ⟨mm, hmm⟩ : ∃ m, m = mN 1 (bitB bs) N b1 := ⟨_, rfl⟩
                  rw [← hmm] at rr ⊢
                  obtain ⟨f2, b2⟩ := mm
                  dsimp only at rr ⊢
                  have F2 := Lib.hid hmm
                  have HS2 := Lib.hid (HS1.out.next rr kk)
                  clear rr kk hmm HS1
                  go_wp2_with fail
                  (with_reducible refine (num8 5 5 rfl _ HS2.out.rd (by decide)).mono ?_)
                  intro e Y2 hp
                  obtain ⟨⟨v, rfl, rfl⟩, rr, kk⟩ := hp
                  obtain ⟨mm, hmm⟩ : ∃ m, m = mN 5 (bitB bs) N b2 := ⟨_, rfl⟩
                  rw [← hmm] at rr ⊢
                  obtain ⟨f3, b3⟩ := mm
                  dsimp only at rr ⊢
                  have F3 := Lib.hid hmm
                  have HS3 := Lib.hid (HS2.out.next rr kk)
                  clear rr kk hmm HS2
                  go_upto_region 24 with fail
                  obtain ⟨X, hX⟩ : ∃ X, X = Y2.drew := ⟨_, rfl⟩
                  have HX : Hid (LSu bs N A n cap rb w b3 (layOf A0 A1 A2 xs []) ⟨O0, O1, O2, O, o0, o1, o2, oc⟩ es X) := Lib.hid (HS3.out.below (by rw [hX]; exact (Below.refl _ _).drew))
                  have c0 : X.cell? ⟨w.heap.size + 1, 3, none⟩ = some (.slice O xs.length oc) := (boxL_heap HX.out.box).2 3 _ rfl
                  refine wp_region_head 9 (fun W => W.cell? ⟨w.heap.size + 1, 3, none⟩ = some (.slice O xs.length oc)) (by kernel_rfl) (by kernel_rfl) (by kernel_rfl) (by kernel_rfl) (by kernel_rfl) (by kernel_rfl) (by rw [← hX]; exact c0) (fun hHeld => ?_)
                  simp only [List.take_succ_cons, List.take_zero, List.drop_succ_cons, List.drop_zero]
                  rw [← hX] at hHeld ⊢
                  clear hX HS3 c0
                  refine wpAnyH_take (i := 0) (v := .pointer (some ⟨w.heap.size + 1, 3, none⟩)) rfl (by kernel_rfl) (by kernel_rfl) (by kernel_rfl) (fun _ _ _ h => h) (Or.inl ⟨by rfl, by (intro W hS; (try dsimp only at hS); go_simp)⟩) hHeld ?_
                  try simp only [Act.put, List.setIfInBounds_toArray]
                  refine wpAnyH_take (i := 1) (v := .slice O xs.length oc) rfl (by kernel_rfl) (by kernel_rfl) (by kernel_rfl) (fun _ _ _ h => h) (Or.inl ⟨by rfl, by (intro W hS; (try dsimp only at hS); go_simp)⟩) hHeld ?_
                  try simp only [Act.put]
                  refine wpAnyH_take (i := 2) (v := .int .i64 f1) rfl (by kernel_rfl) (by kernel_rfl) (by kernel_rfl) (fun _ _ _ h => h) (Or.inl ⟨by rfl, by (intro W hS; (try dsimp only at hS); go_simp)⟩) hHeld ?_
                  try simp only [Act.put]
                  refine wpAnyH_take (i := 3) (v := .int .i64 f2) rfl (by kernel_rfl) (by kernel_rfl) (by kernel_rfl) (fun _ _ _ h => h) (Or.inl ⟨by rfl, by (intro W hS; (try dsimp only at hS); go_simp)⟩) hHeld ?_
                  try simp only [Act.put]
                  refine wpAnyH_take (i := 4) (v := .int .i64 f3) rfl (by kernel_rfl) (by kernel_rfl) (by kernel_rfl) (fun _ _ _ h => h) (Or.inl ⟨by rfl, by (intro W hS; (try dsimp only at hS); go_simp)⟩) hHeld ?_
                  try simp only [Act.put]
                  refine wpAnyH_take (i := 5) (v := .pointer (some ⟨rb, 0, none⟩)) rfl (by kernel_rfl) (by kernel_rfl) (by kernel_rfl) (fun _ _ _ h => h) (Or.inl ⟨by rfl, by (intro W hS; (try dsimp only at hS); go_simp)⟩) hHeld ?_
                  try simp only [Act.put]
                  refine wpAnyH_ready (rs := [6]) (by kernel_rfl) (by simp) ?_
                  refine AllReadyH.cons rfl (fun K hK => ?_) AllReadyH.nil
                  go_simp
                  go_at_call 74
                  refine (num8 1 1 rfl X HX.out.rd (by decide)).mono ?_
                  intro e Y hp
                  obtain ⟨⟨v, rfl, rfl⟩, rr, kk⟩ := hp
                  obtain ⟨mx, hmx⟩ : ∃ m, m = mN 1 (bitB bs) N b3 := ⟨_, rfl⟩
                  rw [← hmx] at rr ⊢
                  obtain ⟨f4, bz⟩ := mx
                  dsimp only at rr ⊢
                  have HEE := Lib.hid hmx
                  have HY : Hid (LSu bs N A n cap rb w bz (layOf A0 A1 A2 xs []) ⟨O0, O1, O2, O, o0, o1, o2, oc⟩ es Y) := Lib.hid (HX.out.next rr kk)
                  have c0 : Y.cell? ⟨w.heap.size + 1, 3, none⟩ = some (.slice O xs.length oc) := (boxL_heap HY.out.box).2 3 _ rfl
                  have hyl : w.heap.size + 1 < Y.heap.size := (Array.getElem?_eq_some_iff.1 HY.out.box).1
                  have hYb : Below Y.heap.size Y (Y.alloc (.cells (([.int .i64 f1, .int .i64 f2, .int .i64 f3, .int .i64 f4] : List Value)).toArray 75)) := bself
                  have HZ := Lib.hid (HY.out.below hYb)
                  clear hYb
                  clear rr kk HX hmx
                  (try dsimp only)
                  refine hK.out _ _ c0 (fun hHeld => ?_)
                  clear hK K
                  try simp only [Act.put, List.setIfInBounds_toArray, List.set_cons_zero, List.set_cons_succ]
                  refine wpAnyH_ready (rs := [7]) (by kernel_rfl) (by simp) ?_
                  refine AllReadyH.cons rfl (fun K hK => ?_) AllReadyH.nil
                  go_simp
                  refine hK.out _ _ c0 (fun hHeld => ?_)
                  clear hK K
                  try simp only [Act.put, List.setIfInBounds_toArray, List.set_cons_zero, List.set_cons_succ]
                  refine wpAnyH_ready (rs := [8]) (by kernel_rfl) (by simp) ?_
                  refine AllReadyH.cons rfl (fun K hK => ?_) AllReadyH.nil
                  go_simp
                  refine hK.out _ _ ?_ (fun hHeld => ?_)
                  · exact (boxL_heap HZ.out.box).2 3 _ rfl
                  clear hK K hHeld c0
                  try simp only [Act.put, List.setIfInBounds_toArray, List.set_cons_zero, List.set_cons_succ]
                  refine wpAnyH_done (by kernel_rfl) ?_ _
                  change wpList _ _ _ _ _ _
                  obtain ⟨i0, z0, hi, hz, hs1, hs2, hs3⟩ := info_Flank
                  have HI := Lib.hid (⟨hi, hz, hs1, hs2, hs3⟩ : _ ∧ _ ∧ _ ∧ _ ∧ _)
                  clear hi hz hs1 hs2 hs3
                  refine wpList_append_at (enc := Flk.enc) rfl _ _ _ rfl w.heap.size 75 i0 z0 4 i0.bytes Tryd.underlying25 HI.out.1 HI.out.2.1 HI.out.2.2.1 rfl HI.out.2.2.2.1 (by decide) (.slice O xs.length oc) xs.length (xs.flatMap Flk.enc) rfl HZ.out.own.flanks (some ⟨Y.heap.size, 0, none⟩) 1 1 [(⟨f1, f2, f3, f4⟩ : Flk)] rfl rfl (at_one rfl) (fun _ => rfl) ?b1 (by have := HLX.out; unfold maxLen; omega) ?b2 (by simp; omega) ?b3
                  case b1 => exact flk_one
                  case b2 =>
                    have h2 := Nat.mul_le_mul (show xs.length + 1 ≤ 33 by have := HLX.out; omega) HI.out.2.2.2.2
                    omega
                  case b3 =>
                    intro v' V hr hgr
                    obtain ⟨A', d', rfl⟩ := ownsV hr
                    obtain ⟨_, HA⟩ := HZ.out.own.addF hgr hr
                    have HFF := Lib.hid (show mFlank (bitB bs) N b = (Flk.mk f1 f2 f3 f4, bz) by
                      rw [mFlank, mBind_eq F1.out.symm, mBind_eq F2.out.symm, mBind_eq F3.out.symm, mBind_eq HEE.out.symm]
                      rfl)
                    have HG := Lib.hid (LSu.grow (L' := (layOf A0 A1 A2 (xs ++ [(Flk.mk f1 f2 f3 f4)]) [])) (p' := ⟨O0, O1, O2, A', o0, o1, o2, d'⟩) (i := 3) (v := .slice A' (xs.length + 1) d') H0.out HZ.out HZ.out.own.flanks hgr HA (by simp [Lay.cells, layOf]) (by decide) (by decide))
                    have hvx := heap_grown HZ.out.own.flanks hgr HZ.out.box (by decide)
                    have v1 : V.cell? ⟨w.heap.size + 1, 3, none⟩ = some (.slice O xs.length oc) := (boxL_heap hvx).2 3 _ rfl
                    have v2 : V.frozen? ⟨w.heap.size + 1, 3, none⟩ = false := frozen_of_row _ _ _ _ _ hvx
                    have v3 : w.heap.size + 1 < V.heap.size := (Array.getElem?_eq_some_iff.1 hvx).1
                    clear hvx hr hgr HA
                    go_wp2_with fail
                    go_roundw
                    case measure => simp [intOf]; omega
                    case rel => exact ⟨j + 1, bz, xs ++ [(Flk.mk f1 f2 f3 f4)], A', d', by omega, by go_num, Lib.hid (mMany_next HM.out HFF.out), HG⟩
                · have hji : ¬ (j : Int) < (n3 : Int) := by omega
                  have hjn : n3 = j := by omega
                  subst hjn
                  obtain ⟨O3, h⟩ : ∃ x, x = O := ⟨_, rfl⟩
                  subst h
                  obtain ⟨o3, h⟩ : ∃ x, x = oc := ⟨_, rfl⟩
                  subst h
                  obtain ⟨b3', h⟩ : ∃ x, x = b := ⟨_, rfl⟩
                  subst h
                  obtain ⟨A3, h⟩ : ∃ x, x = xs := ⟨_, rfl⟩
                  subst h
                  obtain ⟨V3, h⟩ : ∃ x, x = wr := ⟨_, rfl⟩
                  subst h
                  have E8 := HM
                  have LS4 := HS
                  clear HM HS hj
                  go_wp2_with fail
                  obtain ⟨tb, htb⟩ : ∃ tb, tb = V3.heap.size := ⟨_, rfl⟩
                  obtain ⟨X, hX⟩ : ∃ X, X = V3.alloc (.cells (tmsV []) 76) := ⟨_, rfl⟩
                  have hXb : Below V3.heap.size V3 X := by rw [hX]; exact bself
                  have LS5 : Hid (LSu bs N A n cap rb w b3' (layOf A0 A1 A2 A3 []) ⟨O0, O1, O2, O3, o0, o1, o2, o3⟩ es X ∧ X.heap[tb]? = some (.cells (tmsV []) 76 (0, 0))) := Lib.hid ⟨LS4.out.below hXb, by rw [hX, htb]; exact World.alloc_heap_new _ _⟩
                  have htw : w.heap.size ≤ tb := by rw [htb]; exact Nat.le_of_lt (Array.getElem?_eq_some_iff.1 LS4.out.zr).1
                  have hX' : X = V3.alloc (.cells #[.int .i64 0, .int .i64 0, .int .i64 0, .int .i64 0, .int .i64 0, .int .i64 0, .int .i64 0] 76) := hX
                  rw [← hX']
                  rw [← htb]
                  clear hX hX' hXb htb LS4
                  go_loopw [16] (fun cc wr => ∃ (j : Nat) (b : Nat × Bool) (ts : List Int), j ≤ 7 ∧ cc = .int .i64 j ∧ Hid (mMany mTime j (bitB bs) N b3' = (ts, b)) ∧ Hid (LSu bs N A n cap rb w b (layOf A0 A1 A2 A3 []) ⟨O0, O1, O2, O3, o0, o1, o2, o3⟩ es wr ∧ wr.heap[tb]? = some (.cells (tmsV ts) 76 (0, 0)))) (fun cc _ => 7 - (intOf cc).toNat)
                  case atStart => exact ⟨0, b3', [], Nat.zero_le _, rfl, Lib.hid rfl, LS5⟩
                  case round =>
                    obtain ⟨j, b, ts, hj, rfl, HM, HS⟩ := hrel
                    clear LS5
                    by_cases hlt : j < 7
                    · have hji : (j : Int) < 7 := by omega
                      go_wp2_with fail
                      (with_reducible refine (num8 10 10 rfl _ HS.out.1.rd (by decide)).mono ?_)
                      intro e Y hp
                      obtain ⟨⟨v, rfl, rfl⟩, rr, kk⟩ := hp
                      obtain ⟨mx, hmx⟩ : ∃ m, m = mN 10 (bitB bs) N b := ⟨_, rfl⟩
                      have hx : mx.1 < 2 ^ 10 := by rw [hmx]; exact mN_lt 10 _ _ _
                      rw [← hmx] at rr ⊢
                      obtain ⟨x, bz⟩ := mx
                      dsimp only at rr hx ⊢
                      have hw : IntKind.i64.wrap ((x : Int) + 1) = (x : Int) + 1 := IntWalk.i64_in _ (by omega)
                      have hst : mTime (bitB bs) N b = ((x : Int) + 1, bz) := by rw [mTime, mBind_eq hmx.symm]; rfl
                      have HEE := Lib.hid hst
                      have htr : tb ≠ rb := by omega
                      have HY := Lib.hid (⟨HS.out.1.next rr kk, kk.keep HS.out.2 htr⟩ : _ ∧ _)
                      clear rr kk hst HS hx hmx
                      have yl := (Array.getElem?_eq_some_iff.1 HY.out.2).1
                      have yf : ∀ o, Y.frozen? ⟨tb, o, none⟩ = false := fun o => frozen_of_row _ _ _ _ _ HY.out.2
                      have y1 : Y.cell? ⟨tb, j, none⟩ = some (.int .i64 (ts.getD j 0)) := by simp only [World.cell?, HY.out.2]; exact tms_get hlt
                      go_wp2_with fail
                      go_roundw
                      case measure => simp [intOf]; omega
                      case rel => exact ⟨j + 1, bz, ts ++ [(x : Int) + 1], by omega, by go_num, Lib.hid (mMany_next HM.out HEE.out), Lib.hid ⟨HY.out.1.other H0.out HY.out.2 htw, by rw [heap_setCell_same _ _ _ _ _ _ HY.out.2, tms_set hlt (mMany_len HM.out)]⟩⟩
                    · have hji : ¬ (j : Int) < 7 := by omega
                      obtain rfl : j = 7 := by omega
                      obtain ⟨t0, t1, t2, t3, t4, t5, t6, rfl⟩ := list7 (mMany_len HM.out)
                      have hz : mLay (bitB bs) N s = (layOf A0 A1 A2 A3 [t0, t1, t2, t3, t4, t5, t6], b) := by
                        rw [mLay, mBind_eq G1.out.2.symm, mBind_eq G2.out.2.symm, mBind_eq G3.out.2.symm, mBind_eq G4.out.2.symm, mBind_eq E5.out, mBind_eq E6.out, mBind_eq E7.out, mBind_eq E8.out, mBind_eq HM.out]
                        rfl
                      have HZZ := Lib.hid hz
                      clear hz
                      have hb := HS.out.1.box
                      have yl := (Array.getElem?_eq_some_iff.1 hb).1
                      have yf : ∀ o, wr.frozen? ⟨w.heap.size + 1, o, none⟩ = false := fun o => frozen_of_row _ _ _ _ _ hb
                      have y4 := (boxL_heap hb).2 4 _ rfl
                      have y5 := (boxL_heap hb).2 5 _ rfl
                      have y6 := (boxL_heap hb).2 6 _ rfl
                      have y7 := (boxL_heap hb).2 7 _ rfl
                      have y8 := (boxL_heap hb).2 8 _ rfl
                      have y9 := (boxL_heap hb).2 9 _ rfl
                      have y10 := (boxL_heap hb).2 10 _ rfl
                      have u0 : wr.cell? ⟨tb, 0, none⟩ = some (.int .i64 t0) := by simp only [World.cell?, HS.out.2]; rfl
                      have u1 : wr.cell? ⟨tb, 1, none⟩ = some (.int .i64 t1) := by simp only [World.cell?, HS.out.2]; rfl
                      have u2 : wr.cell? ⟨tb, 2, none⟩ = some (.int .i64 t2) := by simp only [World.cell?, HS.out.2]; rfl
                      have u3 : wr.cell? ⟨tb, 3, none⟩ = some (.int .i64 t3) := by simp only [World.cell?, HS.out.2]; rfl
                      have u4 : wr.cell? ⟨tb, 4, none⟩ = some (.int .i64 t4) := by simp only [World.cell?, HS.out.2]; rfl
                      have u5 : wr.cell? ⟨tb, 5, none⟩ = some (.int .i64 t5) := by simp only [World.cell?, HS.out.2]; rfl
                      have u6 : wr.cell? ⟨tb, 6, none⟩ = some (.int .i64 t6) := by simp only [World.cell?, HS.out.2]; rfl
                      have ul := (Array.getElem?_eq_some_iff.1 HS.out.2).1
                      clear hb
                      go_upto_region 31 with fail
                      have q0 := HS.out.1.setBox (i := 4) (v := .int .i64 t0) (L' := layOf A0 A1 A2 A3 [t0]) H0.out HS.out.1.own.times (lay_time (j := 0) (ts := []) (by decide) rfl)
                      have q1 := q0.setBox (i := 5) (v := .int .i64 t1) (L' := layOf A0 A1 A2 A3 [t0, t1]) H0.out q0.own.times (lay_time (j := 1) (ts := [t0]) (by decide) rfl)
                      have q2 := q1.setBox (i := 6) (v := .int .i64 t2) (L' := layOf A0 A1 A2 A3 [t0, t1, t2]) H0.out q1.own.times (lay_time (j := 2) (ts := [t0, t1]) (by decide) rfl)
                      have q3 := q2.setBox (i := 7) (v := .int .i64 t3) (L' := layOf A0 A1 A2 A3 [t0, t1, t2, t3]) H0.out q2.own.times (lay_time (j := 3) (ts := [t0, t1, t2]) (by decide) rfl)
                      have q4 := q3.setBox (i := 8) (v := .int .i64 t4) (L' := layOf A0 A1 A2 A3 [t0, t1, t2, t3, t4]) H0.out q3.own.times (lay_time (j := 4) (ts := [t0, t1, t2, t3]) (by decide) rfl)
                      have q5 := q4.setBox (i := 9) (v := .int .i64 t5) (L' := layOf A0 A1 A2 A3 [t0, t1, t2, t3, t4, t5]) H0.out q4.own.times (lay_time (j := 5) (ts := [t0, t1, t2, t3, t4]) (by decide) rfl)
                      have q6 := q5.setBox (i := 10) (v := .int .i64 t6) (L' := layOf A0 A1 A2 A3 [t0, t1, t2, t3, t4, t5, t6]) H0.out q5.own.times (lay_time (j := 6) (ts := [t0, t1, t2, t3, t4, t5]) (by decide) rfl)
                      obtain ⟨V, hV⟩ : ∃ V, V = (((((((wr.setCell ⟨w.heap.size + 1, 4, none⟩ (.int .i64 t0)).setCell ⟨w.heap.size + 1, 5, none⟩ (.int .i64 t1)).setCell ⟨w.heap.size + 1, 6, none⟩ (.int .i64 t2)).setCell ⟨w.heap.size + 1, 7, none⟩ (.int .i64 t3)).setCell ⟨w.heap.size + 1, 8, none⟩ (.int .i64 t4)).setCell ⟨w.heap.size + 1, 9, none⟩ (.int .i64 t5)).setCell ⟨w.heap.size + 1, 10, none⟩ (.int .i64 t6)) := ⟨_, rfl⟩
                      rw [← hV] at q6 ⊢
                      obtain ⟨L, hL⟩ : ∃ L, L = layOf A0 A1 A2 A3 [t0, t1, t2, t3, t4, t5, t6] := ⟨_, rfl⟩
                      rw [← hL] at q6 HZZ
                      have HQ := Lib.hid q6
                      clear q0 q1 q2 q3 q4 q5 q6 hV hL yl yf y4 y5 y6 y7 y8 y9 y10 u0 u1 u2 u3 u4 u5 u6 ul HS HM E5 E6 E7 E8
                      obtain ⟨y0, y1, y2, y3, y4, y5, y6, y7, y8, y9, y10⟩ := (boxL_heap HQ.out.box).cells
                      dsimp only at y0 y1 y2 y3
                      obtain ⟨z0, z1, z2, z3, z4, z5, z6, z7, z8, z9, z10⟩ := (boxL_heap HQ.out.zr).cells
                      have yl := (boxL_heap HQ.out.box).1
                      have zl := (boxL_heap HQ.out.zr).1
                      have zf : ∀ o, V.frozen? ⟨w.heap.size, o, none⟩ = false := fun o => frozen_of_row _ _ _ _ _ HQ.out.zr
                      go_wp2_with fail
                      refine bodyPost_ret (v := L.val ⟨O0, O1, O2, O3, o0, o1, o2, o3⟩) (by simp [results, Tryd.results36, go_sem, Lay.val, z0, z1, z2, z3, z4, z5, z6, z7, z8, z9, z10]) rfl ?_
                      rw [HZZ.out]
                      refine ⟨⟨_, rfl, ⟨O0, O1, O2, O3, o0, o1, o2, o3⟩, rfl, es, ?_⟩, H0.out.frame ?_ ?_ HQ.out.rd.pos, ?_⟩
                      · refine HQ.out.own.kept (g := w.heap.size) (fun k _ hn => ?_) HQ.out.zr (by decide) (by decide) (by decide) (by decide) (by decide)
                        iterate 11 rw [Below.heap_setCell _ _ _ _ (by exact hn)]
                      · repeat refine Only.setNew ?_ (Nat.le_refl _)
                        exact HQ.out.only
                      · iterate 11 rw [Below.heap_setCell _ _ _ _ (by dsimp only; omega)]
                        exact HQ.out.rd.bx
                      · repeat refine Only.setNew ?_ (Nat.le_refl _)
                        exact HQ.out.only
end
end Go.Proofs.YtpnnbihofoomeaaDoor
