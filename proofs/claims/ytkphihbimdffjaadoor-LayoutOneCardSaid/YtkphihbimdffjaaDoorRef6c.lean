/-
  lockbarref06.exit, flank.
-/
import Derived.Test.YtkphihbimdffjaaDoorRef6b
namespace Go.Proofs.YtkphihbimdffjaaDoor
open Go.RowKit Go.Shelf

def exitR (L : Lay) (x : Ext') : Bool := x.over.all (fun s => stepB L s.s s.i s.o) && (hasB L x.s x.p && decide (x.over.length ≤ 2))

set_option maxRecDepth 100000 in
set_option maxHeartbeats 8000000 in
theorem rExitOf_any (L : Lay) (p : Where) (x : Ext') (v : Value) (w : World) (hL : LayAt w p L) (hv : Sl w 3 Stp.enc v x.over) :
    Calls Tryd.prog 47 #[L.val p, .agg #[.int .i64 x.s, .int .i64 x.p, v]] w fun e w' => e = .returned (.bool (exitR L x)) ∧ Below w.heap.size w w' := by
  have hr : (∀ (k : Nat) (st : Stp), x.over[k]? = some st → stepB L st.s st.i st.o = false → exitR L x = false) ∧ ((∀ (k : Nat) (st : Stp), k < x.over.length → x.over[k]? = some st → stepB L st.s st.i st.o = true) → exitR L x = (hasB L x.s x.p && decide (x.over.length ≤ 2))) := by
    unfold exitR
    refine ⟨fun k st hk h => ?_, fun h => ?_⟩
    · rw [show x.over.all (fun s => stepB L s.s s.i s.o) = false from ?_]
      · rfl
      · rw [List.all_eq_false]
        exact ⟨st, List.mem_of_getElem? hk, by simp [h]⟩
    · rw [show x.over.all (fun s => stepB L s.s s.i s.o) = true from ?_]
      · rfl
      · rw [List.all_eq_true]
        intro st hst
        obtain ⟨k, hk⟩ := List.mem_iff_getElem?.1 hst
        exact h k st (List.getElem?_eq_some_iff.1 hk).1 hk
  generalize exitR L x = r at hr ⊢
  have ht := fun w1 (b : Below w.heap.size w w1) => rThere_any L p x.s x.p w1 (hL.below b)
  generalize hasB L x.s x.p = hb at hr ht
  have hs := fun (s i o : Int) w1 (b : Below w.heap.size w w1) => rStep_any L p s i o w1 (hL.below b)
  obtain ⟨A, cap, rfl, hlc, hcm, hA⟩ := hv
  have hm : x.over.length ≤ 9223372036854775807 := Nat.le_trans hlc hcm
  have HR := Lib.hid hr
  have HT := Lib.hid ht
  have HS := Lib.hid hs
  have HA := Lib.hid hA
  have hX := (BoxL.make (W := w) (L := L) (p := p) (n := w.heap.size) 29 rfl).below (bself (o := .cells #[.int .i64 x.s, .int .i64 x.p, .slice A x.over.length cap] 53))
  clear hr ht hs hL hlc hcm hA
  unfold Lay.val at *
  go_enter Tryd.func47, Tryd.ntmps47
  go_wp2_with fail
  obtain ⟨Y, hY⟩ : ∃ Y, Y = (w.alloc (.cells (L.cells p).toArray 29)).alloc (.cells #[.int .i64 x.s, .int .i64 x.p, .slice A x.over.length cap] 53) := ⟨_, rfl⟩
  have HB : Hid (Below w.heap.size w Y) := Lib.hid (by rw [hY]; exact bchain bself bself)
  have HX : Hid (BoxL Y w.heap.size L p) := Lib.hid (by rw [hY]; exact hX)
  have q0 : Y.cell? ⟨w.heap.size + 1, 0, none⟩ = some (.int .i64 x.s) := by rw [hY, World.cell?_alloc_at _ _ _ _ (by simp)]; rfl
  have q1 : Y.cell? ⟨w.heap.size + 1, 1, none⟩ = some (.int .i64 x.p) := by rw [hY, World.cell?_alloc_at _ _ _ _ (by simp)]; rfl
  have q2 : Y.cell? ⟨w.heap.size + 1, 2, none⟩ = some (.slice A x.over.length cap) := by rw [hY, World.cell?_alloc_at _ _ _ _ (by simp)]; rfl
  have lq : w.heap.size + 1 < Y.heap.size := by rw [hY]; simp
  have hY' : (w.alloc (.cells #[.slice p.a0 L.secs.length p.c0, .slice p.a1 L.sigs.length p.c1, .slice p.a2 L.exits.length p.c2, .slice p.a3 L.flanks.length p.c3, .int .i64 L.t0, .int .i64 L.t1, .int .i64 L.t2, .int .i64 L.t3, .int .i64 L.t4, .int .i64 L.t5, .int .i64 L.t6] 29)).alloc (.cells #[.int .i64 x.s, .int .i64 x.p, .slice A x.over.length cap] 53) = Y := hY.symm
  rw [hY']
  clear hY hY' hX
  go_loopw [5] (fun x5 wr => ∃ n : Nat, n ≤ x.over.length ∧ x5 = .int .i64 n ∧ Hid (∀ (k : Nat) (st : Stp), k < n → x.over[k]? = some st → stepB L st.s st.i st.o = true) ∧ Hid (Below Y.heap.size Y wr)) (fun x5 _ => x.over.length - (intOf x5).toNat)
  case atStart => exact ⟨0, by omega, rfl, Lib.hid (fun k st hk => absurd hk (Nat.not_lt_zero _)), Lib.hid (Below.refl _ _)⟩
  case round =>
    obtain ⟨n, hn, rfl, HJ, HBr⟩ := hrel
    obtain ⟨V, rfl⟩ : ∃ V : World, V = wr := ⟨_, rfl⟩
    have xL := HX.out.below HBr.out
    have lw := xL.1
    obtain ⟨r0, r1, r2, r3, r4, r5, r6, r7, r8, r9, r10⟩ := xL.cells
    have s0 := (HBr.out.cell (p := ⟨w.heap.size + 1, 0, none⟩) lq).trans q0
    have s1 := (HBr.out.cell (p := ⟨w.heap.size + 1, 1, none⟩) lq).trans q1
    have s2 := (HBr.out.cell (p := ⟨w.heap.size + 1, 2, none⟩) lq).trans q2
    have lq2 : w.heap.size + 1 < V.heap.size := Nat.lt_of_lt_of_le lq HBr.out.size
    have BV := Lib.hid (bchain HB.out HBr.out)
    clear xL
    by_cases hlt : n < x.over.length
    · obtain ⟨b, off, hAe, hrow⟩ := HA.out.get hlt
      subst hAe
      obtain ⟨st, hst⟩ : ∃ st, x.over[n]? = some st := ⟨x.over[n], List.getElem?_eq_getElem hlt⟩
      have hr2 := hrow.below BV.out
      have d0 : V.cell? ⟨b, off + n * 3, none⟩ = some (.int .i64 st.s) := hr2.2 n st hst 0 _ rfl
      have d1 : V.cell? ⟨b, off + n * 3 + 1, none⟩ = some (.int .i64 st.i) := hr2.2 n st hst 1 _ rfl
      have d2 : V.cell? ⟨b, off + n * 3 + 2, none⟩ = some (.int .i64 st.o) := hr2.2 n st hst 2 _ rfl
      have lb : b < V.heap.size := hr2.1
      have h3 := fun w1 hw => HS.out st.s st.i st.o w1 hw
      have hrf := HR.out.1 n st hst
      have next : stepB L st.s st.i st.o = true → Hid (∀ (k : Nat) (st : Stp), k < n + 1 → x.over[k]? = some st → stepB L st.s st.i st.o = true) := fun h => Lib.hid fun k st' hk hk' => by
        by_cases e : k = n
        · subst e
          rw [hst] at hk'
          cases hk'
          exact h
        · exact HJ.out k st' (by omega) hk'
      generalize stepN L st.s st.i st.o = sn at h3
      generalize stepB L st.s st.i st.o = sb at h3 hrf next
      have H3 := Lib.hid h3
      have NX := Lib.hid next
      clear h3 next hst hr2 hrow
      go_wp2_with fail
      refine wp_region_ext (by kernel_rfl) (by kernel_rfl) fun hx => ?_
      repeat (go_big_quiet_step ((go_at_call 13; exact Calls.ext (H3.out _ (bchain BV.out (Ext.below _))))))
      refine wpQuiet_nil ?_
      intro w5 b5
      have HB5 := Lib.hid (bchain HBr.out b5)
      clear b5
      cases sb
      · obtain rfl := hrf rfl
        go_wp2
        go_ret
        exact ⟨rfl, bchain HB.out HB5.out⟩
      · go_wp2
        go_roundw
        case rel => exact ⟨n + 1, by omega, by go_num, NX.out (by simp), HB5⟩
        case measure => simp [intOf]; omega
    obtain rfl : n = x.over.length := by omega
    obtain rfl := HR.out.2 HJ.out
    go_wp2_with fail
    (with_reducible refine (HT.out _ BV.out).mono ?_)
    rintro e w1 ⟨rfl, b1⟩
    obtain ⟨c1, f1, l1⟩ := bcell b1
    have lq3 := l1 _ lq2
    have HB1 := Lib.hid (bchain BV.out b1)
    clear b1 f1 l1
    cases hb
    · go_wp2
      go_ret
      exact ⟨by simp, HB1.out⟩
    · go_wp2
      all_goals
        go_ret
        exact ⟨ret_bool (by simp; try omega), HB1.out⟩
end Go.Proofs.YtkphihbimdffjaaDoor
