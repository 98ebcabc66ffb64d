/-
  The document's Own of a layout: each slice is a row of its own, and each exit's overlap.
-/
import Derived.Test.YtkphihbimdffjaaDoorOneA
import Derived.Test.YtkphihbimdffjaaDoorOwn
import Derived.Test.YtkphihbimdffjaaDoorHeadIn
import Derived.OwnWalkIn
import Derived.Deep.LoopGhost
namespace Go.Proofs.YtkphihbimdffjaaDoor
open Go.RowKit Go.Shelf

/-- Own's two variables: the layout at hand (cells cs), and what it will tell (nothing yet). -/
structure BSt (w W : World) (cs : List Value) : Prop where
  below : Below w.heap.size w W
  bx : W.heap[w.heap.size]? = some (.cells cs.toArray 29 (0, 0))
  zr : W.heap[w.heap.size + 1]? = some (.cells zeroLay.toArray 29 (0, 0))
theorem BSt.lt {w W : World} {cs : List Value} (h : BSt w W cs) : w.heap.size + 1 < W.heap.size := (Array.getElem?_eq_some_iff.1 h.zr).1
theorem BSt.next {w W W' : World} {cs : List Value} (h : BSt w W cs) (hb : Below W.heap.size W W') : BSt w W' cs :=
  ⟨bchain h.below hb, (hb.block _ (by have := h.lt; omega)).trans h.bx, (hb.block _ h.lt).trans h.zr⟩
theorem BSt.set {w W : World} {cs cs' : List Value} {i : Nat} {v : Value} (h : BSt w W cs) (e : cs.set i v = cs') : BSt w (W.setCell ⟨w.heap.size, i, none⟩ v) cs' := by
  refine ⟨h.below.setCell (p := ⟨w.heap.size, i, none⟩) (Nat.le_refl _) _, ?_, (Below.heap_setCell _ _ _ _ (by dsimp only; omega)).trans h.zr⟩
  rw [heap_setCell_same _ _ _ _ _ _ h.bx, ← e]
  simp
theorem BSt.cell {w W : World} {cs : List Value} (h : BSt w W cs) {i : Nat} {v : Value} (e : cs[i]? = some v) : W.cell? ⟨w.heap.size, i, none⟩ = some v := by
  simp [World.cell?, h.bx, e]
theorem BSt.zero {w W : World} {cs : List Value} (h : BSt w W cs) {i : Nat} {v : Value} (e : zeroLay[i]? = some v) : W.cell? ⟨w.heap.size + 1, i, none⟩ = some v := by
  simp [World.cell?, h.zr, e]
theorem BSt.fz {w W : World} {cs : List Value} (h : BSt w W cs) (i : Nat) : W.frozen? ⟨w.heap.size, i, none⟩ = false := frozen_of_row _ _ _ _ _ h.bx
theorem BSt.fz1 {w W : World} {cs : List Value} (h : BSt w W cs) (i : Nat) : W.frozen? ⟨w.heap.size + 1, i, none⟩ = false := frozen_of_row _ _ _ _ _ h.zr
theorem BSt.keep {w W : World} {cs : List Value} (h : BSt w W cs) {i : Nat} {v : Value} {base : Nat} {e : TypeId} {size : Nat} {sv : Value} {n : Nat} {xs : List Value} (hr : W.ownsRow base e size sv n xs) (he : 29 ≠ e) : (W.setCell ⟨w.heap.size, i, none⟩ v).ownsRow base e size sv n xs :=
  owns_kept hr (set_others W ⟨w.heap.size, i, none⟩ v) (fun cur hc => by rw [h.bx] at hc; cases hc; exact he rfl)
theorem BSt.keepO {w W : World} {cs : List Value} (h : BSt w W cs) {i : Nat} {v : Value} {B : Nat} {p : Where} {L : Lay} {es : List (Ext' × Value)} (hr : Owned B W p L es) : Owned B (W.setCell ⟨w.heap.size, i, none⟩ v) p L es :=
  hr.kept (set_others W ⟨w.heap.size, i, none⟩ v) h.bx (by decide) (by decide) (by decide) (by decide) (by decide)
theorem grown_below {X W' : World} {o : Obj} {c : Nat} (hg : (X.alloc o).grownBy W' (Value.slice (some ⟨X.heap.size, 0, none⟩) 0 c).ownBlock) : Below X.heap.size X W' :=
  (bself (w := X) (o := o)).grown hg (by simp) (fun k e => by
    have e2 : X.heap.size = k := by simpa [Value.ownBlock] using e
    omega)

set_option maxRecDepth 100000 in
set_option maxHeartbeats 16000000 in
theorem rOwn_any (L : Lay) (p : Where) (w : World) (hL : LayAt w p L) (hf : Few L) : Calls Tryd.prog 23 #[L.val p] w fun e w' => ∃ p' es, e = .returned (L.val p') ∧ Owned w.heap.size w' p' L es ∧ Below w.heap.size w w' := by
  obtain ⟨es, hes, hAt, hov⟩ := hL.exits
  have hlen : es.length = L.exits.length := by rw [← hes, List.length_map]
  obtain ⟨a0, a1, a2, a3, p0, p1, p2, p3⟩ := p
  dsimp only at hAt
  unfold Lay.val
  have HE := Lib.hid (⟨hes, hAt, hov, hlen⟩ : _ ∧ _ ∧ _ ∧ _)
  have HF := Lib.hid hf
  have HL := Lib.hid hL
  clear hes hAt hov hlen hf hL
  go_enter Tryd.func23, Tryd.ntmps23
  go_upto_region 1 with fail
  obtain ⟨X, hX⟩ : ∃ X, X = (w.alloc (.cells #[.slice a0 L.secs.length p0, .slice a1 L.sigs.length p1, .slice a2 L.exits.length p2, .slice a3 L.flanks.length p3, .int .i64 L.t0, .int .i64 L.t1, .int .i64 L.t2, .int .i64 L.t3, .int .i64 L.t4, .int .i64 L.t5, .int .i64 L.t6] 29)).alloc (.cells #[.slice none 0 0, .slice none 0 0, .slice none 0 0, .slice none 0 0, .int .i64 0, .int .i64 0, .int .i64 0, .int .i64 0, .int .i64 0, .int .i64 0, .int .i64 0] 29) := ⟨_, rfl⟩
  have HB : Hid (BSt w X [.slice a0 L.secs.length p0, .slice a1 L.sigs.length p1, .slice a2 L.exits.length p2, .slice a3 L.flanks.length p3, .int .i64 L.t0, .int .i64 L.t1, .int .i64 L.t2, .int .i64 L.t3, .int .i64 L.t4, .int .i64 L.t5, .int .i64 L.t6]) := Lib.hid (by
    rw [hX]
    refine ⟨bchain bself bself, ?_, ?_⟩
    · rw [(bself (w := w.alloc _)).block _ (by simp)]
      exact World.alloc_heap_new _ _
    · have := World.alloc_heap_new (w.alloc (.cells #[.slice a0 L.secs.length p0, .slice a1 L.sigs.length p1, .slice a2 L.exits.length p2, .slice a3 L.flanks.length p3, .int .i64 L.t0, .int .i64 L.t1, .int .i64 L.t2, .int .i64 L.t3, .int .i64 L.t4, .int .i64 L.t5, .int .i64 L.t6] 29)) (.cells #[.slice none 0 0, .slice none 0 0, .slice none 0 0, .slice none 0 0, .int .i64 0, .int .i64 0, .int .i64 0, .int .i64 0, .int .i64 0, .int .i64 0, .int .i64 0] 29)
      simpa [zeroLay] using this)
  rw [← hX]
  clear hX
  go_upto_region 1 with fail
  go_cut [] (fun w' => ∃ (A0 : Option Addr) (d0 : Nat), Hid (BSt w w' [.slice A0 L.secs.length d0, .slice a1 L.sigs.length p1, .slice a2 L.exits.length p2, .slice a3 L.flanks.length p3, .int .i64 L.t0, .int .i64 L.t1, .int .i64 L.t2, .int .i64 L.t3, .int .i64 L.t4, .int .i64 L.t5, .int .i64 L.t6]) ∧ Hid (w'.ownsRow w.heap.size 39 11 (.slice A0 L.secs.length d0) L.secs.length (L.secs.flatMap Sec.enc)))
  case first =>
    obtain ⟨i0, z0, hi, hz, hs1, hs2, hs3⟩ := info_Section
    have HI := Lib.hid (⟨hi, hz, hs1, hs2, hs3⟩ : _ ∧ _ ∧ _ ∧ _ ∧ _)
    have k0 : X.cell? ⟨w.heap.size, 0, none⟩ = some (.slice a0 L.secs.length p0) := HB.out.cell rfl
    have g1 : w.heap.size < X.heap.size := by have := HB.out.lt; omega
    clear hi hz hs1 hs2 hs3
    go_wp2_with (at_builtin; refine Hid.out ?_)
    refine Lib.hid ?_
    refine wpList_append_at (enc := Sec.enc) rfl _ _ _ rfl w.heap.size 39 i0 z0 11 i0.bytes Tryd.underlying22 HI.out.1 HI.out.2.1 HI.out.2.2.1 rfl HI.out.2.2.2.1 (by decide) (.slice (some ⟨X.heap.size, 0, none⟩) 0 0) 0 [] rfl (World.ownsRow_made X #[] 0 (by omega) (by unfold maxLen; omega) (by simp)) a0 L.secs.length p0 L.secs rfl rfl (HL.out.secs.below (bchain HB.out.below bself)) (fun _ => rfl) sec_one (by have := HF.out.1; unfold maxLen; omega) ?_ (by simp; omega) ?_
    · have h2 := Nat.mul_le_mul HF.out.1 HI.out.2.2.2.2
      rw [Nat.zero_add]
      omega
    intro v' V hr hg
    obtain ⟨A0, d0, rfl⟩ := ownsV hr
    rw [Nat.zero_add, List.nil_append] at hr
    rw [Nat.zero_add]
    have hb := grown_below hg
    have HV := Lib.hid (HB.out.next hb)
    have k1 : V.cell? ⟨w.heap.size, 0, none⟩ = some (.slice a0 L.secs.length p0) := HV.out.cell rfl
    have g2 : w.heap.size < V.heap.size := by have := HV.out.lt; omega
    have f2 : V.frozen? ⟨w.heap.size, 0, none⟩ = false := HV.out.fz 0
    have HR := Lib.hid hr
    have HBB := Lib.hid hb
    clear hr hg hb k0 g1
    go_wp2_with fail
    go_meet
    exact ⟨A0, d0, Lib.hid (HV.out.set rfl), Lib.hid (HV.out.keep HR.out (by decide))⟩
  case rest =>
  obtain ⟨A0, d0, HB1, O0⟩ := hcut
  clear HB
  obtain ⟨X, hX⟩ : ∃ X, X = wc := ⟨_, rfl⟩
  subst hX
  have HB := HB1
  clear HB1
  go_upto_region 2 with fail
  go_cut [] (fun w' => ∃ (A0 A1 : Option Addr) (d0 d1 : Nat), Hid (BSt w w' [.slice A0 L.secs.length d0, .slice A1 L.sigs.length d1, .slice a2 L.exits.length p2, .slice a3 L.flanks.length p3, .int .i64 L.t0, .int .i64 L.t1, .int .i64 L.t2, .int .i64 L.t3, .int .i64 L.t4, .int .i64 L.t5, .int .i64 L.t6]) ∧ Hid (w'.ownsRow w.heap.size 39 11 (.slice A0 L.secs.length d0) L.secs.length (L.secs.flatMap Sec.enc)) ∧ Hid (w'.ownsRow w.heap.size 50 2 (.slice A1 L.sigs.length d1) L.sigs.length (L.sigs.flatMap Prt.enc)))
  case first =>
    obtain ⟨i0, z0, hi, hz, hs1, hs2, hs3⟩ := info_Signal
    have HI := Lib.hid (⟨hi, hz, hs1, hs2, hs3⟩ : _ ∧ _ ∧ _ ∧ _ ∧ _)
    have k0 : X.cell? ⟨w.heap.size, 1, none⟩ = some (.slice a1 L.sigs.length p1) := HB.out.cell rfl
    have g1 : w.heap.size < X.heap.size := by have := HB.out.lt; omega
    clear hi hz hs1 hs2 hs3
    go_wp2_with (at_builtin; refine Hid.out ?_)
    refine Lib.hid ?_
    refine wpList_append_at (enc := Prt.enc) rfl _ _ _ rfl w.heap.size 50 i0 z0 2 i0.bytes Tryd.underlying23 HI.out.1 HI.out.2.1 HI.out.2.2.1 rfl HI.out.2.2.2.1 (by decide) (.slice (some ⟨X.heap.size, 0, none⟩) 0 0) 0 [] rfl (World.ownsRow_made X #[] 0 (by omega) (by unfold maxLen; omega) (by simp)) a1 L.sigs.length p1 L.sigs rfl rfl (HL.out.sigs.below (bchain HB.out.below bself)) (fun _ => rfl) prt_one (by have := HF.out.2.1; unfold maxLen; omega) ?_ (by simp; omega) ?_
    · have h2 := Nat.mul_le_mul HF.out.2.1 HI.out.2.2.2.2
      rw [Nat.zero_add]
      omega
    intro v' V hr hg
    obtain ⟨A1, d1, rfl⟩ := ownsV hr
    rw [Nat.zero_add, List.nil_append] at hr
    rw [Nat.zero_add]
    have hb := grown_below hg
    have HV := Lib.hid (HB.out.next hb)
    have k1 : V.cell? ⟨w.heap.size, 1, none⟩ = some (.slice a1 L.sigs.length p1) := HV.out.cell rfl
    have g2 : w.heap.size < V.heap.size := by have := HV.out.lt; omega
    have f2 : V.frozen? ⟨w.heap.size, 1, none⟩ = false := HV.out.fz 1
    have HR := Lib.hid hr
    have HBB := Lib.hid hb
    clear hr hg hb k0 g1
    go_wp2_with fail
    go_meet
    exact ⟨A0, A1, d0, d1, Lib.hid (HV.out.set rfl), Lib.hid (HV.out.keep (owns_below O0.out HBB.out) (by decide)), Lib.hid (HV.out.keep HR.out (by decide))⟩
  case rest =>
  obtain ⟨A0, A1, d0, d1, HB1, O0, O1⟩ := hcut
  clear HB
  obtain ⟨X, hX⟩ : ∃ X, X = wc := ⟨_, rfl⟩
  subst hX
  have HB := HB1
  clear HB1
  go_upto_region 3 with fail
  go_cut [] (fun w' => ∃ (A0 A1 A3 : Option Addr) (d0 d1 d3 : Nat), Hid (BSt w w' [.slice A0 L.secs.length d0, .slice A1 L.sigs.length d1, .slice a2 L.exits.length p2, .slice A3 L.flanks.length d3, .int .i64 L.t0, .int .i64 L.t1, .int .i64 L.t2, .int .i64 L.t3, .int .i64 L.t4, .int .i64 L.t5, .int .i64 L.t6]) ∧ Hid (w'.ownsRow w.heap.size 39 11 (.slice A0 L.secs.length d0) L.secs.length (L.secs.flatMap Sec.enc)) ∧ Hid (w'.ownsRow w.heap.size 50 2 (.slice A1 L.sigs.length d1) L.sigs.length (L.sigs.flatMap Prt.enc)) ∧ Hid (w'.ownsRow w.heap.size 55 4 (.slice A3 L.flanks.length d3) L.flanks.length (L.flanks.flatMap Flk.enc)))
  case first =>
    obtain ⟨i0, z0, hi, hz, hs1, hs2, hs3⟩ := info_Flank
    have HI := Lib.hid (⟨hi, hz, hs1, hs2, hs3⟩ : _ ∧ _ ∧ _ ∧ _ ∧ _)
    have k0 : X.cell? ⟨w.heap.size, 3, none⟩ = some (.slice a3 L.flanks.length p3) := HB.out.cell rfl
    have g1 : w.heap.size < X.heap.size := by have := HB.out.lt; omega
    clear hi hz hs1 hs2 hs3
    go_wp2_with (at_builtin; refine Hid.out ?_)
    refine Lib.hid ?_
    refine wpList_append_at (enc := Flk.enc) rfl _ _ _ rfl w.heap.size 55 i0 z0 4 i0.bytes Tryd.underlying25 HI.out.1 HI.out.2.1 HI.out.2.2.1 rfl HI.out.2.2.2.1 (by decide) (.slice (some ⟨X.heap.size, 0, none⟩) 0 0) 0 [] rfl (World.ownsRow_made X #[] 0 (by omega) (by unfold maxLen; omega) (by simp)) a3 L.flanks.length p3 L.flanks rfl rfl (HL.out.flanks.below (bchain HB.out.below bself)) (fun _ => rfl) flk_one (by have := HF.out.2.2.2.1; unfold maxLen; omega) ?_ (by simp; omega) ?_
    · have h2 := Nat.mul_le_mul HF.out.2.2.2.1 HI.out.2.2.2.2
      rw [Nat.zero_add]
      omega
    intro v' V hr hg
    obtain ⟨A3, d3, rfl⟩ := ownsV hr
    rw [Nat.zero_add, List.nil_append] at hr
    rw [Nat.zero_add]
    have hb := grown_below hg
    have HV := Lib.hid (HB.out.next hb)
    have k1 : V.cell? ⟨w.heap.size, 3, none⟩ = some (.slice a3 L.flanks.length p3) := HV.out.cell rfl
    have g2 : w.heap.size < V.heap.size := by have := HV.out.lt; omega
    have f2 : V.frozen? ⟨w.heap.size, 3, none⟩ = false := HV.out.fz 3
    have HR := Lib.hid hr
    have HBB := Lib.hid hb
    clear hr hg hb k0 g1
    go_wp2_with fail
    go_meet
    exact ⟨A0, A1, A3, d0, d1, d3, Lib.hid (HV.out.set rfl), Lib.hid (HV.out.keep (owns_below O0.out HBB.out) (by decide)), Lib.hid (HV.out.keep (owns_below O1.out HBB.out) (by decide)), Lib.hid (HV.out.keep HR.out (by decide))⟩
  case rest =>
  obtain ⟨A0, A1, A3, d0, d1, d3, HB1, O0, O1, O3⟩ := hcut
  have hm2 : L.exits.length ≤ p2 ∧ p2 ≤ 9223372036854775807 := HL.out.l2
  have hfe : L.exits.length ≤ 1000 := HF.out.2.2.1
  have k2 : wc.cell? ⟨w.heap.size, 2, none⟩ = some (.slice a2 L.exits.length p2) := HB1.out.cell rfl
  have g2 : w.heap.size < wc.heap.size := by have := HB1.out.lt; omega
  have f2 : wc.frozen? ⟨w.heap.size, 2, none⟩ = false := HB1.out.fz 2
  clear HB
  go_upto_region 6 with fail
  obtain ⟨Y, hY⟩ : ∃ Y, Y = wc.setCell ⟨w.heap.size, 2, none⟩ (.slice none 0 0) := ⟨_, rfl⟩
  have HB : Hid (BSt w Y [.slice A0 L.secs.length d0, .slice A1 L.sigs.length d1, .slice none 0 0, .slice A3 L.flanks.length d3, .int .i64 L.t0, .int .i64 L.t1, .int .i64 L.t2, .int .i64 L.t3, .int .i64 L.t4, .int .i64 L.t5, .int .i64 L.t6]) := Lib.hid (by rw [hY]; exact HB1.out.set rfl)
  have HO : Hid (Owned w.heap.size Y ⟨A0, A1, none, A3, d0, d1, 0, d3⟩ ⟨L.secs, L.sigs, [], L.flanks, L.t0, L.t1, L.t2, L.t3, L.t4, L.t5, L.t6⟩ []) := Lib.hid (by
    rw [hY]
    exact ⟨HB1.out.keep O0.out (by decide), HB1.out.keep O1.out (by decide), World.ownsRow_nil _ _ _ _, HB1.out.keep O3.out (by decide), rfl, (fun t ht => by cases ht), HL.out.kinds⟩)
  rw [← hY]
  clear hY HB1 O0 O1 O3 k2 g2 f2
  go_wp2_with fail
  go_loopw [4] (fun c wr => ∃ (k : Nat) (A2 : Option Addr) (d2 : Nat) (eq : List (Ext' × Value)), k ≤ L.exits.length ∧ c = .int .i64 k ∧ Hid (BSt w wr [.slice A0 L.secs.length d0, .slice A1 L.sigs.length d1, .slice A2 k d2, .slice A3 L.flanks.length d3, .int .i64 L.t0, .int .i64 L.t1, .int .i64 L.t2, .int .i64 L.t3, .int .i64 L.t4, .int .i64 L.t5, .int .i64 L.t6]) ∧ Hid (Owned w.heap.size wr ⟨A0, A1, A2, A3, d0, d1, d2, d3⟩ ⟨L.secs, L.sigs, L.exits.take k, L.flanks, L.t0, L.t1, L.t2, L.t3, L.t4, L.t5, L.t6⟩ eq)) (fun c _ => L.exits.length - (intOf c).toNat)
  case atStart => exact ⟨0, none, 0, [], Nat.zero_le _, rfl, HB, HO⟩
  case round =>
    obtain ⟨k, A2, d2, eq, hk, rfl, HB2, HO2⟩ := hrel
    clear HB HO
    by_cases hlt : k < L.exits.length
    · obtain ⟨es', hes, hAt, hov, hlen⟩ : ∃ es : List (Ext' × Value), es.map (·.1) = L.exits ∧ At w 3 Ext'.enc a2 es ∧ (∀ e ∈ es, Sl w 3 Stp.enc e.2 e.1.over) ∧ es.length = L.exits.length := ⟨es, HE.out⟩
      obtain ⟨eb, eo, ea, hrow⟩ := hAt.get (j := k) (by omega)
      obtain ⟨x, hx⟩ : ∃ x, es'[k]? = some x := ⟨es'[k]'(by omega), List.getElem?_eq_getElem (by omega)⟩
      have hxL : L.exits[k]? = some x.1 := by rw [← hes, List.getElem?_map, hx]; rfl
      obtain ⟨vA, vc, ve, hvl, hvm, hva⟩ := hov x (List.mem_of_getElem? hx)
      subst ea
      obtain ⟨ol, hol⟩ : ∃ ol, ol = x.1.over.length := ⟨_, rfl⟩
      rw [← hol] at ve hvl
      have hol2 : ol ≤ 1000 := by rw [hol]; exact HF.out.2.2.2.2 x.1 (List.mem_of_getElem? hxL)
      go_upto_region 9 with fail
      obtain ⟨U, hU⟩ : ∃ U, U = wr := ⟨_, rfl⟩
      rw [← hU] at HB2 HO2 ⊢
      have hUw : Below w.heap.size w U := HB2.out.below
      have y0 : ∀ V', ClB U V' → V'.cell? ⟨eb, eo + k * 3, none⟩ = some (.int .i64 x.1.s) := fun V' h => ((bchain hUw h).cell (p := ⟨eb, eo + k * 3, none⟩) hrow.1).trans (hrow.2 k x hx 0 _ rfl)
      have y1 : ∀ V', ClB U V' → V'.cell? ⟨eb, eo + k * 3 + 1, none⟩ = some (.int .i64 x.1.p) := fun V' h => ((bchain hUw h).cell (p := ⟨eb, eo + k * 3 + 1, none⟩) hrow.1).trans (hrow.2 k x hx 1 _ rfl)
      have y2 : ∀ V', ClB U V' → V'.cell? ⟨eb, eo + k * 3 + 2, none⟩ = some (.slice vA ol vc) := fun V' h => ((bchain hUw h).cell (p := ⟨eb, eo + k * 3 + 2, none⟩) hrow.1).trans ((hrow.2 k x hx 2 _ rfl).trans (by rw [ve]))
      have cs : ∀ V', ClB U V' → V'.cell? ⟨w.heap.size, 2, none⟩ = some (.slice A2 k d2) := fun V' h => (HB2.out.next h).cell rfl
      obtain ⟨i0, z0, hi, hz, hs1, hs2, hs3⟩ := info_Step
      have HI := Lib.hid (⟨hi, hz, hs1, hs2, hs3⟩ : _ ∧ _ ∧ _ ∧ _ ∧ _)
      have HX := Lib.hid (⟨hol, fun V' (h : ClB U V') => hva.below (bchain hUw h), by unfold maxLen; omega, by
        have h2 := Nat.mul_le_mul hol2 hs3
        omega⟩ : ol = x.1.over.length ∧ (∀ V', ClB U V' → At V' 3 Stp.enc vA x.1.over) ∧ ol ≤ maxLen ∧ ol * i0.bytes ≤ 140737488355328)
      have HXX := Lib.hid (⟨hx, hxL, hol⟩ : _ ∧ _ ∧ _)
      have hi64 : (k : Int) < (L.exits.length : Int) := by omega
      clear hi hz hs1 hs2 hs3 hes hAt hov hrow hx hxL hol hva ve hU hUw
      focus
        refine (wpIn_wide (n := 5)).1 (wpIn_region_rel_head (.inl rfl) 16 [([(1, none)], none), ([(29, some 0)], none), ([(3, none)], none), ([(4, none)], none), ([(31, some 1), (32, some 0)], none), ([(33, some 0)], none), ([(34, some 0)], none), ([], none), ([(3, none)], none), ([(4, none)], none), ([(37, some 1), (38, some 0)], none), ([(39, some 0)], none), ([(40, some 0)], none), ([(36, some 5), (41, some 0)], none), ([(35, some 7), (42, some 0)], none), ([(43, some 0)], none)] [(0, 44), (14, 30)] (by kernel_rfl) (by kernel_rfl) (by kernel_rfl) (by kernel_rfl) (by kernel_rfl) (by kernel_rfl) (by kernel_rfl) (by kernel_rfl) ?_)
        simp only [List.take_succ_cons, List.take_zero, List.drop_succ_cons, List.drop_zero]
        refine ob_det (c := .pointer (some ⟨w.heap.size, 2, none⟩)) ?_ ?_
        · intro ρ W hk hC
          simp only [seen, obOp]
          rintro h1
          replace h1 : ρ (.tmp 1) = .pointer (some ⟨w.heap.size, 0, none⟩) := h1.trans rfl
          exact rel_value (by simp [go_sem, h1]) hC
        refine ob_det (c := .slice A2 k d2) ?_ ?_
        · intro ρ W hk hC
          simp only [seen, obOp, List.getD_cons_zero]
          rintro h29
          exact rel_value (by simp [go_sem, h29, cs W hC]) hC
        refine ob_det (c := .slice (some ⟨eb, eo, none⟩) L.exits.length p2) ?_ ?_
        · intro ρ W hk hC
          simp only [seen, obOp]
          rintro h3
          replace h3 : ρ (.tmp 3) = .slice (some ⟨eb, eo, none⟩) L.exits.length p2 := h3.trans rfl
          exact rel_value (by simp [go_sem, h3]) hC
        refine ob_det (c := .int .i64 (k : Nat)) ?_ ?_
        · intro ρ W hk hC
          simp only [seen, obOp]
          rintro h4
          replace h4 : ρ (.tmp 4) = .int .i64 (k : Nat) := h4.trans rfl
          exact rel_value (by simp [go_sem, h4]) hC
        refine ob_det (c := .pointer (some ⟨eb, eo + k * 3, none⟩)) ?_ ?_
        · intro ρ W hk hC
          simp only [seen, obOp, List.getD_cons_zero, List.getD_cons_succ]
          rintro h31 h32
          exact rel_value (by simp [go_sem, h31, h32, hi64]) hC
        refine ob_det (c := .pointer (some ⟨eb, eo + k * 3, none⟩)) ?_ ?_
        · intro ρ W hk hC
          simp only [seen, obOp, List.getD_cons_zero]
          rintro h33
          exact rel_value (by simp [go_sem, h33]) hC
        refine ob_det (c := .agg #[.int .i64 x.1.s, .int .i64 x.1.p]) ?_ ?_
        · intro ρ W hk hC
          simp only [seen, obOp, List.getD_cons_zero]
          rintro h34
          exact rel_value (by simp [go_sem, h34, y0 W hC, y1 W hC]) hC
        refine ⟨EmptyS U 33, fun _ _ _ h k => h.step k, ?_, ?_⟩
        · intro ρ W hk hC
          simp only [seen, obOp]
          exact rel_emptyS (by simp [go_sem]) hC
        refine ob_det (c := .slice (some ⟨eb, eo, none⟩) L.exits.length p2) ?_ ?_
        · intro ρ W hk hC
          simp only [seen, obOp]
          rintro h3
          replace h3 : ρ (.tmp 3) = .slice (some ⟨eb, eo, none⟩) L.exits.length p2 := h3.trans rfl
          exact rel_value (by simp [go_sem, h3]) hC
        refine ob_det (c := .int .i64 (k : Nat)) ?_ ?_
        · intro ρ W hk hC
          simp only [seen, obOp]
          rintro h4
          replace h4 : ρ (.tmp 4) = .int .i64 (k : Nat) := h4.trans rfl
          exact rel_value (by simp [go_sem, h4]) hC
        refine ob_det (c := .pointer (some ⟨eb, eo + k * 3, none⟩)) ?_ ?_
        · intro ρ W hk hC
          simp only [seen, obOp, List.getD_cons_zero, List.getD_cons_succ]
          rintro h37 h38
          exact rel_value (by simp [go_sem, h37, h38, hi64]) hC
        refine ob_det (c := .pointer (some ⟨eb, eo + k * 3 + 2, none⟩)) ?_ ?_
        · intro ρ W hk hC
          simp only [seen, obOp, List.getD_cons_zero]
          rintro h39
          exact rel_value (by simp [go_sem, h39]) hC
        refine ob_det (c := .slice vA ol vc) ?_ ?_
        · intro ρ W hk hC
          simp only [seen, obOp, List.getD_cons_zero]
          rintro h40
          exact rel_value (by simp [go_sem, h40, y2 W hC]) hC
        refine ⟨fun v W => W.ownsRow U.heap.size 33 3 v ol (x.1.over.flatMap Stp.enc), fun _ _ _ h k => owns_below h k, ?_, ?_⟩
        · intro ρ W hk hC
          simp only [seen, obOp, List.getD_cons_zero, List.getD_cons_succ]
          rintro h36 h41
          exact rel_copy Tryd.underlying51 HI.out.1 HI.out.2.1 HI.out.2.2.1 rfl HI.out.2.2.2.1 (by decide) h36 HX.out.1 h41 (HX.out.2.1 W hC) (fun _ => rfl) HX.out.2.2.1 HX.out.2.2.2 hC
        refine ⟨fun v W => ∃ sv, v = .agg #[.int .i64 x.1.s, .int .i64 x.1.p, sv] ∧ W.ownsRow U.heap.size 33 3 sv ol (x.1.over.flatMap Stp.enc), fun _ _ _ h k => ⟨h.choose, h.choose_spec.1, owns_below h.choose_spec.2 k⟩, ?_, ?_⟩
        · intro ρ W hk hC
          simp only [seen, obOp, List.getD_cons_zero, List.getD_cons_succ]
          rintro h35 h42
          obtain ⟨oA, oc, ho⟩ := ownsV h42
          have hr := h42
          rw [ho] at hr
          refine relUpon_value (c := .agg #[.int .i64 x.1.s, .int .i64 x.1.p, .slice oA ol oc]) (by simp [go_sem, h35, ho]) hC ⟨_, rfl, hr⟩
        refine ⟨fun v W => ∃ sv, OneS U #[.int .i64 x.1.s, .int .i64 x.1.p, sv] v W ∧ W.ownsRow U.heap.size 33 3 sv ol (x.1.over.flatMap Stp.enc), fun _ _ _ h k => ⟨h.choose, h.choose_spec.1.step k, owns_below h.choose_spec.2 k⟩, ?_, ?_⟩
        · intro ρ W hk hC
          simp only [seen, obOp, List.getD_cons_zero]
          rintro h43
          obtain ⟨sv, hv, hr⟩ := h43
          obtain ⟨oA, oc, ho⟩ := ownsV hr
          subst ho
          exact relUpon_mono (rel_one (cs := #[.int .i64 x.1.s, .int .i64 x.1.p, .slice oA ol oc]) (T := 53) (by simp [go_sem, hv]) hC) fun v w2 st h => ⟨_, h, owns_below hr st⟩
        intro vs w5 hC5
        simp only [endSeen, List.getD_cons_zero, List.getD_cons_succ]
        intro h44 h30
        simp only [writeAll, List.setIfInBounds_toArray, List.set_cons_zero, List.set_cons_succ]
        obtain ⟨sv, ⟨g1, hg1, lg1, lg1', cg1⟩, hsv⟩ := h44
        replace h30 : vs 30 = .slice A2 k d2 := h30
        rw [hg1, h30]
        obtain ⟨sA, sc, hse⟩ := ownsV hsv
        subst hse
        obtain ⟨j0, zj, hj, hzj, hj1, hj2, hj3⟩ := info_Exit
        have HV := Lib.hid (HB2.out.next hC5)
        have HOV := Lib.hid (HO2.out.below hC5)
        have hown := HOV.out.exits
        have hkl : (L.exits.take k).length = k := by rw [List.length_take]; omega
        have hown2 : w5.ownsRow w.heap.size 53 3 (.slice A2 k d2) k (eq.flatMap Ext'.enc) := by
          have h := hown
          dsimp only at h
          rwa [hkl] at h
        refine wpListIn_append_own _ rfl _ _ 24 rfl w.heap.size 53 j0 zj 3 j0.bytes Tryd.underlying24 hj hzj hj1 rfl hj2 (by decide) _ k (eq.flatMap Ext'.enc) (by rfl) hown2 ⟨g1, 0, none⟩ 1 1 (Ext'.enc (x.1, .slice sA ol sc)) (by rfl) rfl ?x1 ?x2 ?x3 ?x4 ?x5 ?_
        case x1 =>
          intro i u hu
          rw [add_at]
          have := cg1 i
          rw [Nat.zero_add, this]
          simpa [Ext'.enc] using hu
        case x2 =>
          intro u hu
          simp only [Ext'.enc, List.mem_cons, List.not_mem_nil, or_false] at hu
          rcases hu with rfl | rfl | rfl <;> rfl
        case x3 => unfold maxLen; omega
        case x4 =>
          have h2 := Nat.mul_le_mul (show k + 1 ≤ 1000 by omega) hj3
          omega
        case x5 => have := HV.out.lt; omega
        intro v' w6 hown' hgrow _
        obtain ⟨A2', d2', rfl⟩ := ownsV hown'
        have hb6 : Below w.heap.size w5 w6 := (Below.refl _ _).grown hgrow (by have := HV.out.lt; omega) (fun kk e => (hown2.lt kk e).1)
        have hg6 : w5.grownBy w6 (Value.slice A2 (L.exits.take k).length d2).ownBlock := by rw [hkl]; exact hgrow
        have hbx6 : BSt w w6 [.slice A0 L.secs.length d0, .slice A1 L.sigs.length d1, .slice A2 k d2, .slice A3 L.flanks.length d3, .int .i64 L.t0, .int .i64 L.t1, .int .i64 L.t2, .int .i64 L.t3, .int .i64 L.t4, .int .i64 L.t5, .int .i64 L.t6] := by
          obtain ⟨q1, q2, q3⟩ := HV.out
          have hne : ∀ (c : Array Value) (kk : Nat), w5.heap[kk]? = some (Obj.cells c 29 (0, 0)) → w6.heap[kk]? = w5.heap[kk]? := fun c kk hc => hgrow.block kk (Array.getElem?_eq_some_iff.1 hc).1 fun e => by
            rcases hown2.2 with ⟨h, _⟩ | ⟨g', cap', cur', h, _, hg', _⟩
            · rw [h] at e; cases e
            · rw [h] at e
              obtain rfl : kk = g' := by simpa [Value.ownBlock] using e
              rw [hc] at hg'
              cases hg'
          exact ⟨q1.trans hb6, (hne _ _ q2).trans q2, (hne _ _ q3).trans q3⟩
        obtain ⟨hn2, hO6⟩ := Owned.addE (x := x.1) (v := .slice sA ol sc) (n' := k + 1) (c' := d2') (A' := A2') HOV.out hg6 (by
          show w6.ownsRow _ _ _ _ ((L.exits.take k).length + 1) _
          rw [hkl]
          simpa using hown') (by have := owns_base hsv (show w.heap.size ≤ U.heap.size by have := HB2.out.lt; omega); rw [← HXX.out.2.2]; exact this)
        have htk : L.exits.take k ++ [x.1] = L.exits.take (k + 1) := by rw [List.take_add_one, HXX.out.2.1]; rfl
        have c2 : w6.cell? ⟨w.heap.size, 2, none⟩ = some (.slice A2 k d2) := hbx6.cell rfl
        have f6 : w6.frozen? ⟨w.heap.size, 2, none⟩ = false := hbx6.fz 2
        have l6 : w.heap.size < w6.heap.size := by have := hbx6.lt; omega
        have HB6 := Lib.hid hbx6
        have HO6 := Lib.hid hO6
        clear hO6 hn2 hbx6 hb6 hg6 hown hown2 hown' hgrow hj hzj hj1 hj2 hj3 cg1 lg1 lg1' hsv hg1 h30 hC5 y0 y1 y2 cs
        gi_wp2
        go_wp2_with fail
        go_round
        case measure => simp [intOf]; omega
        case rel =>
          refine ⟨k + 1, A2', d2', eq ++ [(x.1, .slice sA ol sc)], by omega, by go_num, Lib.hid (HB6.out.set rfl), Lib.hid ?_⟩
          have := HB6.out.keepO (i := 2) (v := .slice A2' (k + 1) d2') HO6.out
          unfold addE at this
          dsimp only at this
          rw [htk] at this
          exact this
    · obtain rfl : k = L.exits.length := by omega
      have hrd : ∀ (i : Nat) (v : Value), ([.slice A0 L.secs.length d0, .slice A1 L.sigs.length d1, .slice A2 L.exits.length d2, .slice A3 L.flanks.length d3, .int .i64 L.t0, .int .i64 L.t1, .int .i64 L.t2, .int .i64 L.t3, .int .i64 L.t4, .int .i64 L.t5, .int .i64 L.t6] : List Value)[i]? = some v → wr.cell? ⟨w.heap.size, i, none⟩ = some v := fun i v hv => HB2.out.cell hv
      have hzr : ∀ (i : Nat) (v : Value), zeroLay[i]? = some v → wr.cell? ⟨w.heap.size + 1, i, none⟩ = some v := fun i v hv => HB2.out.zero hv
      have hzf : ∀ o, wr.frozen? ⟨w.heap.size + 1, o, none⟩ = false := fun o => HB2.out.fz1 o
      have lw1 : w.heap.size + 1 < wr.heap.size := HB2.out.lt
      have lw0 : w.heap.size < wr.heap.size := by omega
      have b0 := hrd 0 _ rfl
      have b1 := hrd 1 _ rfl
      have b2 := hrd 2 _ rfl
      have b3 := hrd 3 _ rfl
      have b4 := hrd 4 _ rfl
      have b5 := hrd 5 _ rfl
      have b6 := hrd 6 _ rfl
      have b7 := hrd 7 _ rfl
      have b8 := hrd 8 _ rfl
      have b9 := hrd 9 _ rfl
      have b10 := hrd 10 _ rfl
      have e0 := hzr 0 _ rfl
      have e1 := hzr 1 _ rfl
      have e2 := hzr 2 _ rfl
      have e3 := hzr 3 _ rfl
      have e4 := hzr 4 _ rfl
      have e5 := hzr 5 _ rfl
      have e6 := hzr 6 _ rfl
      have e7 := hzr 7 _ rfl
      have e8 := hzr 8 _ rfl
      have e9 := hzr 9 _ rfl
      have e10 := hzr 10 _ rfl
      have htk : L.exits.take L.exits.length = L.exits := List.take_length
      have HO3 : Hid (Owned w.heap.size wr ⟨A0, A1, A2, A3, d0, d1, d2, d3⟩ L eq) := Lib.hid (by
        have := HO2.out
        rw [htk] at this
        exact this)
      clear hrd hzr htk HO2
      go_wp2
      refine bodyPost_ret (v := L.val ⟨A0, A1, A2, A3, d0, d1, d2, d3⟩) (by simp [results, Tryd.results23, go_sem, *]) rfl ⟨⟨A0, A1, A2, A3, d0, d1, d2, d3⟩, eq, rfl, ?own, ?bel⟩
      case bel =>
        repeat refine Below.setCell ?_ (by dsimp only; omega) _
        exact HB2.out.below
      case own =>
        refine Owned.kept HO3.out (g := w.heap.size + 1) (fun k _ hk => ?_) HB2.out.zr (by decide) (by decide) (by decide) (by decide) (by decide)
        iterate 11 rw [Below.heap_setCell _ _ _ _ (by dsimp only; exact hk)]
end Go.Proofs.YtkphihbimdffjaaDoor
