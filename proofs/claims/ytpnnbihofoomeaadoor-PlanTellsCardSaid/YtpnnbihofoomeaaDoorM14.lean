/-
  lockbarref08.takeExit.
-/
import Derived.Test.YtpnnbihofoomeaaDoorM13

namespace Go.Proofs.YtpnnbihofoomeaaDoor
open Go.RowKit Go.Shelf

section
variable {bs : List Nat} {N : Nat} {A : Option Addr} {n cap rb : Nat} {s s' s0 : Nat × Bool}
theorem XSt.grow {sb r0 : Nat} {T T' : TypeId} {w V V' : World} {cs zs : Array Value} {e size m : Nat} {v : Value} {xs : List Value} (h : XSt bs N A n cap rb sb r0 T T' w V s cs zs) (H0 : RfAt bs N A n cap rb s0 w) (hr : V.ownsRow w.heap.size e size v m xs) (g : V.grownBy V' v.ownBlock) (e1 : e ≠ T) (e2 : e ≠ T') (e3 : e ≠ 84) : XSt bs N A n cap rb sb r0 T T' w V' s cs zs :=
  have ho := h.only.grown hr (Nat.le_refl _) g
  ⟨H0.frame ho (heap_grown hr g h.rd.bx e3) h.rd.pos, heap_grown hr g h.bx e1, heap_grown hr g h.zr e2, ho⟩
set_option maxRecDepth 100000 in
set_option maxHeartbeats 16000000 in
theorem exit8_any (w : World) (h : RfAt bs N A n cap rb s w) :
    Calls Tryd.prog 77 #[.pointer (some ⟨rb, 0, none⟩)] w (RfPost bs N A n cap rb (fun (x : Ext') v W' => ∃ ov, v = .agg #[.int .i64 x.s, .int .i64 x.p, ov] ∧ W'.ownsRow w.heap.size 73 3 ov x.over.length (x.over.flatMap Stp.enc)) (mExit (bitB bs) N s) w) := by
  have hrl := h.lt
  have hb0 : Below w.heap.size w (w.alloc (.cells #[.int .i64 0, .int .i64 0, .slice none 0 0] 51)) := bself
  have G0 := Lib.hid (⟨h.below hb0, World.alloc_heap_new w (.cells #[.int .i64 0, .int .i64 0, .slice none 0 0] 51), Only.of_below hb0⟩ : RfAt bs N A n cap rb s (w.alloc (.cells #[.int .i64 0, .int .i64 0, .slice none 0 0] 51)) ∧ _ ∧ Only rb w _)
  have H0 := Lib.hid h
  clear h hb0
  obtain ⟨r0, hr0⟩ : ∃ r0, r0 = w.heap.size := ⟨_, rfl⟩
  have hz0 : r0 ≠ rb := by omega
  go_enter Tryd.func77, Tryd.ntmps77
  go_wp2_with fail
  (with_reducible refine (port8_any _ G0.out.1).mono ?_)
  intro e W1 hp
  obtain ⟨⟨v, rfl, rfl⟩, r1, k1⟩ := hp
  obtain ⟨m1, hm1⟩ : ∃ m1, m1 = mPort (bitB bs) N s := ⟨_, rfl⟩
  rw [← hm1] at r1 ⊢
  obtain ⟨⟨ps, pp⟩, s1⟩ := m1
  dsimp only at r1 ⊢
  obtain ⟨sb, hsb⟩ : ∃ sb, sb = W1.heap.size := ⟨_, rfl⟩
  obtain ⟨V, hV⟩ : ∃ V, V = W1.alloc (.cells #[.int .i64 ps, .int .i64 pp, .slice none 0 0] 51) := ⟨_, rfl⟩
  have hbV : Below W1.heap.size W1 V := by rw [hV]; exact bself
  have hszs := k1.size
  have hr0s : r0 < W1.heap.size := by rw [hr0]; simp at hszs; omega
  have hs1 : sb ≠ rb := by rw [hsb]; have := r1.lt; omega
  have hs2 : sb ≠ r0 := by rw [hsb]; omega
  have hs3 : w.heap.size ≤ sb := by rw [hsb, ← hr0]; omega
  have G1 : Hid (XSt bs N A n cap rb sb r0 51 51 w V s1 #[.int .i64 ps, .int .i64 pp, .slice none 0 0] #[.int .i64 0, .int .i64 0, .slice none 0 0]) := Lib.hid ⟨r1.below hbV, by rw [hV, hsb]; exact World.alloc_heap_new _ _, (hbV.block _ hr0s).trans (by rw [hr0]; exact k1.keep G0.out.2.1 (by omega)), (G0.out.2.2.trans k1).trans (.of_below hbV)⟩
  rw [← hr0]
  have HR0 := Lib.hid (⟨hr0, hm1⟩ : _ ∧ _)
  clear hbV hszs hr0s r1 k1 G0 hr0 hm1
  go_wp2_with fail
  rw [← hV]
  rw [← hsb]
  clear hV hsb
  (with_reducible refine (num8 2 2 rfl _ G1.out.rd (by decide)).mono ?_)
  intro e W2 hp
  obtain ⟨⟨v, rfl, rfl⟩, r2, k2⟩ := hp
  obtain ⟨m2, hm2⟩ : ∃ m2, m2 = mN 2 (bitB bs) N s1 := ⟨_, rfl⟩
  have hm4 : m2.1 < 4 := by rw [hm2]; exact mN_lt 2 _ _ _
  rw [← hm2] at r2 ⊢
  obtain ⟨m, s2⟩ := m2
  dsimp only at hm4 r2 ⊢
  have G2 := Lib.hid (G1.out.num r2 k2 hs1 hz0)
  have HM2 := Lib.hid hm2
  clear r2 k2 G1 hm2
  go_wp2_with fail
  go_loopw [5] (fun cc wr => ∃ (j : Nat) (os : List Stp) (s3 : Nat × Bool) (O : Option Addr) (oc : Nat), j ≤ m ∧ cc = .int .i64 j ∧ Hid (mMany mStp j (bitB bs) N s2 = (os, s3)) ∧ Hid (XSt bs N A n cap rb sb r0 51 51 w wr s3 #[.int .i64 ps, .int .i64 pp, .slice O os.length oc] #[.int .i64 0, .int .i64 0, .slice none 0 0] ∧ wr.ownsRow w.heap.size 73 3 (.slice O os.length oc) os.length (os.flatMap Stp.enc))) (fun cc _ => m - (intOf cc).toNat)
  case atStart => exact ⟨0, [], s2, none, 0, Nat.zero_le _, rfl, Lib.hid rfl, Lib.hid ⟨G2.out, World.ownsRow_nil _ _ _ _⟩⟩
  case round =>
    obtain ⟨j, os, s3, O, oc, hj, rfl, HM, HS⟩ := hrel
    clear G2
    by_cases hlt : j < m
    · have hji : (j : Int) < (m : Int) := by omega
      go_wp2_with fail
      (with_reducible refine (num8 5 5 rfl _ HS.out.1.rd (by decide)).mono ?_)
      intro e W3 hp
      obtain ⟨⟨v, rfl, rfl⟩, rr, kk⟩ := hp
      obtain ⟨m3, hm3⟩ : ∃ m3, m3 = mN 5 (bitB bs) N s3 := ⟨_, rfl⟩
      rw [← hm3] at rr ⊢
      obtain ⟨x1, s4⟩ := m3
      dsimp only at rr ⊢
      have G3 := Lib.hid (⟨HS.out.1.num rr kk hs1 hz0, owns_only HS.out.2 kk hrl, hm3⟩ : _ ∧ _ ∧ _)
      clear rr kk HS hm3
      go_wp2_with fail
      (with_reducible refine (num8 2 2 rfl _ G3.out.1.rd (by decide)).mono ?_)
      intro e W4 hp
      obtain ⟨⟨v, rfl, rfl⟩, rr, kk⟩ := hp
      obtain ⟨m4, hm4'⟩ : ∃ m4, m4 = mN 2 (bitB bs) N s4 := ⟨_, rfl⟩
      rw [← hm4'] at rr ⊢
      obtain ⟨x2, s5⟩ := m4
      dsimp only at rr ⊢
      have G4 := Lib.hid (⟨G3.out.1.num rr kk hs1 hz0, owns_only G3.out.2.1 kk hrl, G3.out.2.2, hm4'⟩ : _ ∧ _ ∧ _ ∧ _)
      clear rr kk G3 hm4'
      go_upto_region 8 with fail
      obtain ⟨X, hX⟩ : ∃ X, X = W4.drew := ⟨_, rfl⟩
      have hXb : Below W4.heap.size W4 X := by rw [hX]; exact (Below.refl _ _).drew
      have HX := Lib.hid (⟨G4.out.1.below hXb, owns_below G4.out.2.1 hXb⟩ : XSt bs N A n cap rb sb r0 51 51 w X s5 #[.int .i64 ps, .int .i64 pp, .slice O os.length oc] #[.int .i64 0, .int .i64 0, .slice none 0 0] ∧ X.ownsRow w.heap.size 73 3 (.slice O os.length oc) os.length (os.flatMap Stp.enc))
      have c0 : X.cell? ⟨sb, 2, none⟩ = some (.slice O os.length oc) := by simp [World.cell?, HX.out.1.bx]
      refine wp_region_head 8 (fun W => W.cell? ⟨sb, 2, none⟩ = some (.slice O os.length oc)) (by kernel_rfl) (by kernel_rfl) (by kernel_rfl) (by kernel_rfl) (by kernel_rfl) (by kernel_rfl) (by rw [← hX]; exact c0) (fun hHeld => ?_)
      simp only [List.take_succ_cons, List.take_zero, List.drop_succ_cons, List.drop_zero]
      rw [← hX] at hHeld ⊢
      clear hX hXb c0
      refine wpAnyH_take (i := 0) (v := .pointer (some ⟨sb, 2, none⟩)) rfl (by kernel_rfl) (by kernel_rfl) (by kernel_rfl) (fun _ _ _ h => h) (Or.inl ⟨by rfl, by (intro W hS; (try dsimp only at hS); go_simp)⟩) hHeld ?_
      try simp only [Act.put, List.setIfInBounds_toArray]
      refine wpAnyH_take (i := 1) (v := .slice O os.length oc) rfl (by kernel_rfl) (by kernel_rfl) (by kernel_rfl) (fun _ _ _ h => h) (Or.inl ⟨by rfl, by (intro W hS; (try dsimp only at hS); go_simp)⟩) hHeld ?_
      try simp only [Act.put]
      refine wpAnyH_take (i := 2) (v := .int .i64 x1) rfl (by kernel_rfl) (by kernel_rfl) (by kernel_rfl) (fun _ _ _ h => h) (Or.inl ⟨by rfl, by (intro W hS; (try dsimp only at hS); go_simp)⟩) hHeld ?_
      try simp only [Act.put]
      refine wpAnyH_take (i := 3) (v := .int .i64 x2) rfl (by kernel_rfl) (by kernel_rfl) (by kernel_rfl) (fun _ _ _ h => h) (Or.inl ⟨by rfl, by (intro W hS; (try dsimp only at hS); go_simp)⟩) hHeld ?_
      try simp only [Act.put]
      refine wpAnyH_take (i := 4) (v := .pointer (some ⟨rb, 0, none⟩)) rfl (by kernel_rfl) (by kernel_rfl) (by kernel_rfl) (fun _ _ _ h => h) (Or.inl ⟨by rfl, by (intro W hS; (try dsimp only at hS); go_simp)⟩) hHeld ?_
      try simp only [Act.put]
      refine wpAnyH_ready (rs := [5]) (by kernel_rfl) (by simp) ?_
      refine AllReadyH.cons rfl (fun K hK => ?_) AllReadyH.nil
      go_simp
      go_at_call 74
      refine (num8 2 2 rfl X HX.out.1.rd (by decide)).mono ?_
      intro e Y hp
      obtain ⟨⟨v, rfl, rfl⟩, rr, kk⟩ := hp
      obtain ⟨m5, hm5⟩ : ∃ m5, m5 = mN 2 (bitB bs) N s5 := ⟨_, rfl⟩
      rw [← hm5] at rr ⊢
      obtain ⟨x3, s6⟩ := m5
      dsimp only at rr ⊢
      have hYY : XSt bs N A n cap rb sb r0 51 51 w Y s6 #[.int .i64 ps, .int .i64 pp, .slice O os.length oc] #[.int .i64 0, .int .i64 0, .slice none 0 0] := HX.out.1.num rr kk hs1 hz0
      have hYo := owns_only HX.out.2 kk hrl
      have c0 : Y.cell? ⟨sb, 2, none⟩ = some (.slice O os.length oc) := by simp [World.cell?, hYY.bx]
      have hyl : w.heap.size ≤ Y.heap.size := Nat.le_trans hs3 (Nat.le_of_lt (Array.getElem?_eq_some_iff.1 hYY.bx).1)
      have hYb : Below Y.heap.size Y (Y.alloc (.cells #[.int .i64 x1, .int .i64 x2, .int .i64 x3] 73)) := bself
      have HY := Lib.hid (⟨hYY, hYo, hm5⟩ : _ ∧ _ ∧ _)
      have HZ := Lib.hid (⟨hYY.below hYb, owns_below hYo hYb⟩ : _ ∧ _)
      clear hYY hYo hYb rr kk HX hm5
      (try dsimp only)
      refine hK.out _ _ c0 (fun hHeld => ?_)
      clear hK K
      try simp only [Act.put, List.setIfInBounds_toArray, List.set_cons_zero, List.set_cons_succ]
      refine wpAnyH_ready (rs := [6]) (by kernel_rfl) (by simp) ?_
      refine AllReadyH.cons rfl (fun K hK => ?_) AllReadyH.nil
      go_simp
      refine hK.out _ _ c0 (fun hHeld => ?_)
      clear hK K
      try simp only [Act.put, List.setIfInBounds_toArray, List.set_cons_zero, List.set_cons_succ]
      refine wpAnyH_ready (rs := [7]) (by kernel_rfl) (by simp) ?_
      refine AllReadyH.cons rfl (fun K hK => ?_) AllReadyH.nil
      go_simp
      refine hK.out _ _ ?_ (fun hHeld => ?_)
      · simp [World.cell?, HZ.out.1.bx]
      clear hK K hHeld c0
      try simp only [Act.put, List.setIfInBounds_toArray, List.set_cons_zero, List.set_cons_succ]
      refine wpAnyH_done (by kernel_rfl) ?_ _
      change wpList _ _ _ _ _ _
      obtain ⟨i0, z0, hi, hz, hs1', hs2', hs3'⟩ := info_Step
      have HI := Lib.hid (⟨hi, hz, hs1', hs2', hs3'⟩ : _ ∧ _ ∧ _ ∧ _ ∧ _)
      clear hi hz hs1' hs2' hs3'
      have HLX := Lib.hid (mMany_len HM.out)
      refine wpList_append_at (enc := Stp.enc) rfl _ _ _ rfl w.heap.size 73 i0 z0 3 i0.bytes Tryd.underlying49 HI.out.1 HI.out.2.1 HI.out.2.2.1 rfl HI.out.2.2.2.1 (by decide) (.slice O os.length oc) os.length (os.flatMap Stp.enc) rfl HZ.out.2 (some ⟨Y.heap.size, 0, none⟩) 1 1 [(⟨x1, x2, x3⟩ : Stp)] rfl rfl (at_one rfl) (fun _ => rfl) ?b1 (by have := HLX.out; unfold maxLen; omega) ?b2 (by simp; omega) ?b3
      case b1 => exact stp_one
      case b2 =>
        have h2 := Nat.mul_le_mul (show os.length + 1 ≤ 5 by have := HLX.out; omega) HI.out.2.2.2.2
        omega
      case b3 =>
        intro v' V' hr hgr
        obtain ⟨A', d', rfl⟩ := ownsV hr
        have hx := HZ.out.1.grow H0.out HZ.out.2 hgr (by decide) (by decide) (by decide)
        have v1 : V'.cell? ⟨sb, 2, none⟩ = some (.slice O os.length oc) := by simp [World.cell?, hx.bx]
        have v2 : V'.frozen? ⟨sb, 2, none⟩ = false := frozen_of_row _ _ _ _ _ hx.bx
        have v3 : sb < V'.heap.size := (Array.getElem?_eq_some_iff.1 hx.bx).1
        have HG := Lib.hid (⟨hx.set (i := 2) (u := .slice A' (os.length + 1) d') H0.out hs1 hs2 hs3, owns_kept hr (set_others V' ⟨sb, 2, none⟩ (.slice A' (os.length + 1) d')) (fun cur hc => by rw [hx.bx] at hc; cases hc)⟩ : _ ∧ _)
        have hst : mStp (bitB bs) N s3 = (⟨x1, x2, x3⟩, s6) := by
          rw [mStp, mBind_eq G4.out.2.2.1.symm, mBind_eq G4.out.2.2.2.symm, mBind_eq HY.out.2.2.symm]
          rfl
        have HST := Lib.hid hst
        clear hr hgr hx hst
        go_wp2_with fail
        go_roundw
        case measure => simp [intOf]; omega
        case rel =>
          refine ⟨j + 1, os ++ [⟨x1, x2, x3⟩], s6, A', d', by omega, by go_num, Lib.hid (mMany_next HM.out HST.out), Lib.hid ⟨?_, ?_⟩⟩
          · rw [List.length_append]
            exact HG.out.1
          · rw [List.length_append, List.flatMap_append]
            exact HG.out.2
    · obtain rfl : j = m := by omega
      have hji : ¬ ((j : Nat) : Int) < (j : Int) := by omega
      have hex : mExit (bitB bs) N s = (Ext'.mk ps pp os, s3) := by
        rw [mExit, mBind_eq HR0.out.2.symm]
        show mBind (mN 2) _ _ _ _ = _
        rw [mBind_eq HM2.out.symm, mBind_eq HM.out]
        rfl
      have HEX := Lib.hid hex
      clear hex
      have y0 : wr.cell? ⟨sb, 0, none⟩ = some (.int .i64 ps) := by simp [World.cell?, HS.out.1.bx]
      have y1 : wr.cell? ⟨sb, 1, none⟩ = some (.int .i64 pp) := by simp [World.cell?, HS.out.1.bx]
      have y2 : wr.cell? ⟨sb, 2, none⟩ = some (.slice O os.length oc) := by simp [World.cell?, HS.out.1.bx]
      have yl := (Array.getElem?_eq_some_iff.1 HS.out.1.bx).1
      have z0 : wr.cell? ⟨r0, 0, none⟩ = some (.int .i64 0) := by simp [World.cell?, HS.out.1.zr]
      have z1 : wr.cell? ⟨r0, 1, none⟩ = some (.int .i64 0) := by simp [World.cell?, HS.out.1.zr]
      have z2 : wr.cell? ⟨r0, 2, none⟩ = some (.slice none 0 0) := by simp [World.cell?, HS.out.1.zr]
      have zl := (Array.getElem?_eq_some_iff.1 HS.out.1.zr).1
      have zf : ∀ o, wr.frozen? ⟨r0, o, none⟩ = false := fun o => frozen_of_row _ _ _ _ _ HS.out.1.zr
      go_wp2_with fail
      have hr0 := HR0.out.1
      refine bodyPost_ret (v := .agg #[.int .i64 ps, .int .i64 pp, .slice O os.length oc]) (by simp [results, Tryd.results77, go_sem, z0, z1, z2]) rfl ?_
      rw [HEX.out]
      have ho : Only rb w (((wr.setCell ⟨r0, 0, none⟩ (.int .i64 ps)).setCell ⟨r0, 1, none⟩ (.int .i64 pp)).setCell ⟨r0, 2, none⟩ (.slice O os.length oc)) := by
        repeat refine Only.setNew ?_ (by dsimp only; omega)
        exact HS.out.1.only
      refine ⟨⟨_, rfl, _, rfl, ?_⟩, H0.out.frame ho ?_ HS.out.1.rd.pos, ho⟩
      · refine owns_kept (g := r0) HS.out.2 (fun k _ hn => ?_) (fun cur hc => by rw [HS.out.1.zr] at hc; cases hc)
        iterate 3 rw [Below.heap_setCell _ _ _ _ (by exact hn)]
      · iterate 3 rw [Below.heap_setCell _ _ _ _ (show rb ≠ r0 from fun e => hz0 e.symm)]
        exact HS.out.1.rd.bx
end
end Go.Proofs.YtpnnbihofoomeaaDoor
