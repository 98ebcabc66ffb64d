/-
  lockbarref06.Right: it answers as layout.Right.
-/
import Derived.Test.YtkphihbimdffjaaDoorRef6d
namespace Go.Proofs.YtkphihbimdffjaaDoor
open Go.RowKit Go.Shelf

def rightR (L : Lay) : Bool := L.secs.all (secR L) && (L.sigs.all (fun x => hasB L x.s x.p) && (L.exits.all (exitR L) && (L.flanks.all (flankT L) && (sizesT L && timesT L))))
theorem jn_mem (c : Sec) (x : Prt) : ∀ i, x ∈ jn c i ↔ ∃ j, j < i ∧ 0 ≤ c.S j ∧ x = ⟨c.S j, c.P j⟩
  | 0 => by simp [jn]
  | i + 1 => by
    simp only [jn, List.mem_append, jn_mem c x i]
    constructor
    · rintro (⟨j, hj, h⟩ | h)
      · exact ⟨j, by omega, h⟩
      · split at h
        · rename_i h0
          simp only [List.mem_cons, List.not_mem_nil, or_false] at h
          exact ⟨i, by omega, h0, h⟩
        · cases h
    · rintro ⟨j, hj, h0, h⟩
      by_cases e : j = i
      · subst e
        exact .inr (by rw [if_pos h0]; simp [h])
      · exact .inl ⟨j, by omega, h0, h⟩
theorem sj_mem (xs : List Sec) (x : Prt) : ∀ n, x ∈ sj xs n ↔ ∃ k, k < n ∧ x ∈ jn (xs.getD k default) 4
  | 0 => by simp [sj]
  | n + 1 => by
    simp only [sj, List.mem_append, sj_mem xs x n]
    constructor
    · rintro (⟨k, hk, h⟩ | h)
      · exact ⟨k, by omega, h⟩
      · exact ⟨n, by omega, h⟩
    · rintro ⟨k, hk, h⟩
      by_cases e : k = n
      · subst e; exact .inr h
      · exact .inl ⟨k, by omega, h⟩
theorem portsL_mem (L : Lay) (x : Prt) : x ∈ portsL L ↔ (∃ c ∈ L.secs, ∃ j, j < 4 ∧ 0 ≤ c.S j ∧ x = ⟨c.S j, c.P j⟩) ∨ x ∈ L.sigs ∨ ∃ e ∈ L.exits, x = ⟨e.s, e.p⟩ := by
  unfold portsL
  simp only [List.mem_append, sj_mem, jn_mem, List.mem_map, exP]
  constructor
  · rintro (⟨k, hk, h⟩ | h | ⟨e, he, h⟩)
    · refine .inl ⟨_, ?_, h⟩
      rw [List.getD_eq_getElem?_getD, List.getElem?_eq_getElem hk]
      exact List.getElem_mem hk
    · exact .inr (.inl h)
    · exact .inr (.inr ⟨e, he, h.symm⟩)
  · rintro (⟨c, hc, h⟩ | h | ⟨e, he, h⟩)
    · obtain ⟨k, hk⟩ := List.mem_iff_getElem?.1 hc
      refine .inl ⟨k, (List.getElem?_eq_some_iff.1 hk).1, ?_⟩
      rw [List.getD_eq_getElem?_getD, hk]
      exact h
    · exact .inr (.inl h)
    · exact .inr (.inr ⟨e, he, h.symm⟩)
theorem jok_all (L : Lay) (c : Sec) : (jokT L c 0 = true ∧ jokT L c 1 = true ∧ jokT L c 2 = true ∧ jokT L c 3 = true) ↔ ∀ j, j < 4 → 0 ≤ c.S j → hasB L (c.S j) (c.P j) = true := by
  have key : ∀ i, jokT L c i = true ↔ (0 ≤ c.S i → hasB L (c.S i) (c.P i) = true) := fun i => by
    unfold jokT
    simp only [Bool.or_eq_true, decide_eq_true_eq]
    constructor
    · rintro (h | h)
      · intro g; omega
      · intro _; exact h
    · intro h
      by_cases g : 0 ≤ c.S i
      · exact .inr (h g)
      · exact .inl (by omega)
  simp only [key]
  constructor
  · rintro ⟨h0, h1, h2, h3⟩ j hj
    obtain rfl | rfl | rfl | rfl : j = 0 ∨ j = 1 ∨ j = 2 ∨ j = 3 := by omega
    all_goals assumption
  · intro h
    exact ⟨h 0 (by omega), h 1 (by omega), h 2 (by omega), h 3 (by omega)⟩
theorem rightR_eq (L : Lay) : rightR L = rightL L := by
  rw [Bool.eq_iff_iff]
  unfold rightR rightL portsT secR exitR overT
  simp only [Bool.and_eq_true, List.all_eq_true, decide_eq_true_eq]
  have hm : (∀ x ∈ portsL L, hasB L x.s x.p = true) ↔ (∀ c ∈ L.secs, ∀ j, j < 4 → 0 ≤ c.S j → hasB L (c.S j) (c.P j) = true) ∧ (∀ x ∈ L.sigs, hasB L x.s x.p = true) ∧ ∀ e ∈ L.exits, hasB L e.s e.p = true := by
    constructor
    · intro h
      exact ⟨fun c hc j hj h0 => h ⟨c.S j, c.P j⟩ ((portsL_mem L _).2 (.inl ⟨c, hc, j, hj, h0, rfl⟩)), fun x hx => h x ((portsL_mem L _).2 (.inr (.inl hx))), fun e he => h ⟨e.s, e.p⟩ ((portsL_mem L _).2 (.inr (.inr ⟨e, he, rfl⟩)))⟩
    · rintro ⟨h1, h2, h3⟩ x hx
      rcases (portsL_mem L x).1 hx with ⟨c, hc, j, hj, h0, rfl⟩ | h | ⟨e, he, rfl⟩
      · exact h1 c hc j hj h0
      · exact h2 x h
      · exact h3 e he
  constructor
  · rintro ⟨h1, h2, h3, h4, h5, h6⟩
    refine ⟨⟨⟨⟨⟨h5, h6⟩, fun c hc => (h1 c hc).2⟩, h4⟩, hm.2 ⟨fun c hc => (jok_all L c).1 ?_, h2, fun e he => (h3 e he).2.1⟩⟩, fun e he => ⟨(h3 e he).2.2, (h3 e he).1⟩⟩
    obtain ⟨⟨⟨⟨g0, g1⟩, g2⟩, g3⟩, _⟩ := h1 c hc
    exact ⟨g0, g1, g2, g3⟩
  · rintro ⟨⟨⟨⟨⟨h5, h6⟩, h1⟩, h4⟩, hp⟩, h3⟩
    obtain ⟨q1, q2, q3⟩ := hm.1 hp
    refine ⟨fun c hc => ?_, q2, fun e he => ⟨(h3 e he).2, q3 e he, (h3 e he).1⟩, h4, h5, h6⟩
    obtain ⟨g0, g1, g2, g3⟩ := (jok_all L c).2 (q1 c hc)
    exact ⟨⟨⟨⟨g0, g1⟩, g2⟩, g3⟩, h1 c hc⟩
theorem rightR_facts (L : Lay) : (∀ (n : Nat) (x : Sec), L.secs[n]? = some x → secR L x = false → rightR L = false) ∧ (∀ (n : Nat) (x : Prt), L.sigs[n]? = some x → hasB L x.s x.p = false → rightR L = false) ∧
    (∀ (n : Nat) (x : Ext'), L.exits[n]? = some x → exitR L x = false → rightR L = false) ∧ (∀ (n : Nat) (x : Flk), L.flanks[n]? = some x → flankT L x = false → rightR L = false) ∧
    ((∀ (j : Nat) (y : Sec), j < L.secs.length → L.secs[j]? = some y → secR L y = true) → (∀ (j : Nat) (y : Prt), j < L.sigs.length → L.sigs[j]? = some y → hasB L y.s y.p = true) → (∀ (j : Nat) (y : Ext'), j < L.exits.length → L.exits[j]? = some y → exitR L y = true) →
      (∀ (j : Nat) (y : Flk), j < L.flanks.length → L.flanks[j]? = some y → flankT L y = true) → rightR L = (sizesT L && timesT L)) := by
  have none {α : Type} {f : α → Bool} {xs : List α} {n : Nat} {x : α} (hx : xs[n]? = some x) (h : f x = false) : xs.all f = false := by
    rw [List.all_eq_false]; exact ⟨x, List.mem_of_getElem? hx, by simp [h]⟩
  have all {α : Type} {f : α → Bool} {xs : List α} (h : ∀ (j : Nat) (y : α), j < xs.length → xs[j]? = some y → f y = true) : xs.all f = true := by
    rw [List.all_eq_true]
    intro y hy
    obtain ⟨j, hj⟩ := List.mem_iff_getElem?.1 hy
    exact h j y (List.getElem?_eq_some_iff.1 hj).1 hj
  unfold rightR
  refine ⟨fun n x hx h => ?_, fun n x hx h => ?_, fun n x hx h => ?_, fun n x hx h => ?_, fun h1 h2 h3 h4 => ?_⟩
  · rw [none hx h]; rfl
  · rw [none (f := fun x : Prt => hasB L x.s x.p) hx h]; simp
  · rw [none hx h]; simp
  · rw [none hx h]; simp
  · rw [all h1, all (f := fun x : Prt => hasB L x.s x.p) h2, all h3, all h4]; rfl

set_option maxRecDepth 100000 in
set_option maxHeartbeats 16000000 in
theorem rRight_any (L : Lay) (p : Where) (w : World) (hL : LayAt w p L) :
    Calls Tryd.prog 19 #[L.val p] w fun e w' => e = .returned (.bool (rightL L)) ∧ Below w.heap.size w w' := by
  have hr := rightR_facts L
  rw [rightR_eq] at hr
  unfold sizesT at hr
  generalize rightL L = r at hr ⊢
  have h1 := fun (x : Sec) w1 (b : Below w.heap.size w w1) => rSection_any L p x w1 (hL.below b)
  have h2 := fun (s q : Int) w1 (b : Below w.heap.size w w1) => rThere_any L p s q w1 (hL.below b)
  have h3 := fun (x : Ext') (v : Value) w1 (b : Below w.heap.size w w1) (hv : Sl w 3 Stp.enc v x.over) => rExitOf_any L p x v w1 (hL.below b) (hv.below b)
  have h4 := fun (x : Flk) w1 (b : Below w.heap.size w w1) => rFlank_any L p x w1 (hL.below b)
  have h6 := fun w1 => rTimes_any L w1
  have m0 : L.secs.length ≤ 9223372036854775807 := Nat.le_trans hL.l0.1 hL.l0.2
  have m1 : L.sigs.length ≤ 9223372036854775807 := Nat.le_trans hL.l1.1 hL.l1.2
  have m2 : L.exits.length ≤ 9223372036854775807 := Nat.le_trans hL.l2.1 hL.l2.2
  have m3 : L.flanks.length ≤ 9223372036854775807 := Nat.le_trans hL.l3.1 hL.l3.2
  have hX := BoxL.make (W := w) (L := L) (p := p) (n := w.heap.size) 29 rfl
  generalize timesT L = tt at hr h6
  have HR := Lib.hid hr
  have H1 := Lib.hid h1
  have H2 := Lib.hid h2
  have H3 := Lib.hid h3
  have H4 := Lib.hid h4
  have H6 := Lib.hid h6
  have HL := Lib.hid hL
  clear hr h1 h2 h3 h4 h6 hL
  obtain ⟨a0, a1, a2, a3, p0, p1, p2, p3⟩ := p
  unfold Lay.val at *
  unfold Lay.cells at hX
  go_enter Tryd.func19, Tryd.ntmps19
  go_wp2_with fail
  obtain ⟨Y, hY⟩ : ∃ Y, Y = w.alloc (.cells #[.slice a0 L.secs.length p0, .slice a1 L.sigs.length p1, .slice a2 L.exits.length p2, .slice a3 L.flanks.length p3, .int .i64 L.t0, .int .i64 L.t1, .int .i64 L.t2, .int .i64 L.t3, .int .i64 L.t4, .int .i64 L.t5, .int .i64 L.t6] 29) := ⟨_, rfl⟩
  have HB : Hid (Below w.heap.size w Y) := Lib.hid (by rw [hY]; exact bself)
  have HX : Hid (BoxL Y w.heap.size L ⟨a0, a1, a2, a3, p0, p1, p2, p3⟩) := Lib.hid (by rw [hY]; exact hX)
  rw [← hY]
  clear hY hX
  go_loopw [3] (fun c wr => ∃ n : Nat, n ≤ L.secs.length ∧ c = .int .i64 n ∧ Hid (∀ (j : Nat) (y : Sec), j < n → L.secs[j]? = some y → secR L y = true) ∧ Hid (Below Y.heap.size Y wr)) (fun c _ => L.secs.length - (intOf c).toNat)
  case atStart => exact ⟨0, Nat.zero_le _, rfl, Lib.hid (fun j y hj => absurd hj (Nat.not_lt_zero _)), Lib.hid (Below.refl _ _)⟩
  case round =>
    obtain ⟨n0, hn, rfl, HJ, HBr⟩ := hrel
    obtain ⟨V, rfl⟩ : ∃ V : World, V = wr := ⟨_, rfl⟩
    have xL := HX.out.below HBr.out
    have lw := xL.1
    obtain ⟨r0, r1, r2, r3, r4, r5, r6, r7, r8, r9, r10⟩ := xL.cells
    have BV := Lib.hid (bchain HB.out HBr.out)
    clear xL
    by_cases hlt : n0 < L.secs.length
    · obtain ⟨b, off, hAe, hrow⟩ := HL.out.secs.get hlt
      dsimp only at hAe
      subst hAe
      obtain ⟨x, hx⟩ : ∃ x, L.secs[n0]? = some x := ⟨L.secs[n0], List.getElem?_eq_getElem hlt⟩
      obtain ⟨k0, k1, k2, k3, k4, k5, k6, k7, k8, k9, k10⟩ := sec_cells (hrow.below BV.out) hx
      have lb : b < V.heap.size := (hrow.below BV.out).1
      have h3 := fun w1 hw => H1.out x w1 hw
      unfold Sec.enc at h3
      have hrf := HR.out.1 n0 x hx
      have next : secR L x = true → Hid (∀ (j : Nat) (y : Sec), j < n0 + 1 → L.secs[j]? = some y → secR L y = true) := fun h => Lib.hid fun j y hj hy => by
        by_cases e : j = n0
        · subst e
          rw [hx] at hy
          cases hy
          exact h
        · exact HJ.out j y (by omega) hy
      generalize secR L x = sb at h3 hrf next
      have H5 := Lib.hid h3
      have NX := Lib.hid next
      clear h3 next hx hrow
      go_wp2_with fail
      refine wp_region_ext (by kernel_rfl) (by kernel_rfl) fun hx => ?_
      repeat (go_big_quiet_step ((go_at_call 45; exact Calls.ext (H5.out _ (bchain BV.out (Ext.below _))))))
      refine wpQuiet_nil ?_
      intro w5 b5
      have HB5 := Lib.hid (bchain HBr.out b5)
      clear b5
      cases sb
      · obtain rfl := hrf rfl
        go_wp2
        go_ret
        exact ⟨rfl, bchain HB.out HB5.out⟩
      · go_wp2
        go_roundw
        case rel => exact ⟨n0 + 1, by omega, by go_num, NX.out (by simp), HB5⟩
        case measure => simp [intOf]; omega
    obtain rfl : n0 = L.secs.length := by omega
    have HJ0 := HJ
    go_wp2_with fail
    clear r0 r1 r2 r3 r4 r5 r6 r7 r8 r9 r10 hlt hn lw BV HJ
    obtain ⟨V0, rfl⟩ : ∃ V0 : World, V0 = V := ⟨_, rfl⟩
    have HBs0 := HBr
    clear HBr
    go_loopw [4] (fun c wr => ∃ n : Nat, n ≤ L.sigs.length ∧ c = .int .i64 n ∧ Hid (∀ (j : Nat) (y : Prt), j < n → L.sigs[j]? = some y → hasB L y.s y.p = true) ∧ Hid (Below Y.heap.size Y wr)) (fun c _ => L.sigs.length - (intOf c).toNat)
    case atStart => exact ⟨0, Nat.zero_le _, rfl, Lib.hid (fun j y hj => absurd hj (Nat.not_lt_zero _)), HBs0⟩
    case round =>
      obtain ⟨n1, hn, rfl, HJ, HBr⟩ := hrel
      obtain ⟨V, rfl⟩ : ∃ V : World, V = wr := ⟨_, rfl⟩
      have xL := HX.out.below HBr.out
      have lw := xL.1
      obtain ⟨r0, r1, r2, r3, r4, r5, r6, r7, r8, r9, r10⟩ := xL.cells
      have BV := Lib.hid (bchain HB.out HBr.out)
      clear xL
      by_cases hlt : n1 < L.sigs.length
      · obtain ⟨b, off, hAe, hrow⟩ := HL.out.sigs.get hlt
        dsimp only at hAe
        subst hAe
        obtain ⟨x, hx⟩ : ∃ x, L.sigs[n1]? = some x := ⟨L.sigs[n1], List.getElem?_eq_getElem hlt⟩
        have k0 : V.cell? ⟨b, off + n1 * 2, none⟩ = some (.int .i64 x.s) := (hrow.below BV.out).2 n1 x hx 0 _ rfl
        have k1 : V.cell? ⟨b, off + n1 * 2 + 1, none⟩ = some (.int .i64 x.p) := (hrow.below BV.out).2 n1 x hx 1 _ rfl
        have lb : b < V.heap.size := (hrow.below BV.out).1
        have h3 := fun w1 hw => H2.out x.s x.p w1 hw
        have hrf := HR.out.2.1 n1 x hx
        have next : hasB L x.s x.p = true → Hid (∀ (j : Nat) (y : Prt), j < n1 + 1 → L.sigs[j]? = some y → hasB L y.s y.p = true) := fun h => Lib.hid fun j y hj hy => by
          by_cases e : j = n1
          · subst e
            rw [hx] at hy
            cases hy
            exact h
          · exact HJ.out j y (by omega) hy
        generalize hasB L x.s x.p = sb at h3 hrf next
        have H5 := Lib.hid h3
        have NX := Lib.hid next
        clear h3 next hx hrow
        go_wp2_with fail
        refine wp_region_ext (by kernel_rfl) (by kernel_rfl) fun hx => ?_
        repeat (go_big_quiet_step ((go_at_call 46; exact Calls.ext (H5.out _ (bchain BV.out (Ext.below _))))))
        refine wpQuiet_nil ?_
        intro w5 b5
        have HB5 := Lib.hid (bchain HBr.out b5)
        clear b5
        cases sb
        · obtain rfl := hrf rfl
          go_wp2
          go_ret
          exact ⟨rfl, bchain HB.out HB5.out⟩
        · go_wp2
          go_roundw
          case rel => exact ⟨n1 + 1, by omega, by go_num, NX.out (by simp), HB5⟩
          case measure => simp [intOf]; omega
      obtain rfl : n1 = L.sigs.length := by omega
      have HJ1 := HJ
      go_wp2_with fail
      clear r0 r1 r2 r3 r4 r5 r6 r7 r8 r9 r10 hlt hn lw BV HJ
      obtain ⟨V1, rfl⟩ : ∃ V1 : World, V1 = V := ⟨_, rfl⟩
      have HBs1 := HBr
      clear HBr
      go_loopw [5] (fun c wr => ∃ n : Nat, n ≤ L.exits.length ∧ c = .int .i64 n ∧ Hid (∀ (j : Nat) (y : Ext'), j < n → L.exits[j]? = some y → exitR L y = true) ∧ Hid (Below Y.heap.size Y wr)) (fun c _ => L.exits.length - (intOf c).toNat)
      case atStart => exact ⟨0, Nat.zero_le _, rfl, Lib.hid (fun j y hj => absurd hj (Nat.not_lt_zero _)), HBs1⟩
      case round =>
        obtain ⟨n2, hn, rfl, HJ, HBr⟩ := hrel
        obtain ⟨V, rfl⟩ : ∃ V : World, V = wr := ⟨_, rfl⟩
        have xL := HX.out.below HBr.out
        have lw := xL.1
        obtain ⟨r0, r1, r2, r3, r4, r5, r6, r7, r8, r9, r10⟩ := xL.cells
        have BV := Lib.hid (bchain HB.out HBr.out)
        clear xL
        by_cases hlt : n2 < L.exits.length
        · obtain ⟨es, hes, hAt, hSl⟩ := HL.out.exits
          have hlen : es.length = L.exits.length := by rw [← hes, List.length_map]
          obtain ⟨b, off, hAe, hrow⟩ := hAt.get (j := n2) (by omega)
          dsimp only at hAe
          subst hAe
          obtain ⟨y, hy⟩ : ∃ y, es[n2]? = some y := ⟨es[n2]'(by omega), List.getElem?_eq_getElem (by omega)⟩
          obtain ⟨x, v⟩ := y
          have hx : L.exits[n2]? = some x := by rw [← hes, List.getElem?_map, hy]; rfl
          have k0 : V.cell? ⟨b, off + n2 * 3, none⟩ = some (.int .i64 x.s) := (hrow.below BV.out).2 n2 _ hy 0 _ rfl
          have k1 : V.cell? ⟨b, off + n2 * 3 + 1, none⟩ = some (.int .i64 x.p) := (hrow.below BV.out).2 n2 _ hy 1 _ rfl
          have k2 : V.cell? ⟨b, off + n2 * 3 + 2, none⟩ = some v := (hrow.below BV.out).2 n2 _ hy 2 _ rfl
          have lb : b < V.heap.size := (hrow.below BV.out).1
          have hsl : Sl w 3 Stp.enc v x.over := hSl _ (List.mem_of_getElem? hy)
          have h3 := fun w1 hw => H3.out x v w1 hw hsl
          obtain ⟨A, cap, rfl, _, _, _⟩ := hsl
          clear hy hSl hAt hes hlen
          have hrf := HR.out.2.2.1 n2 x hx
          have next : exitR L x = true → Hid (∀ (j : Nat) (y : Ext'), j < n2 + 1 → L.exits[j]? = some y → exitR L y = true) := fun h => Lib.hid fun j y hj hy => by
            by_cases e : j = n2
            · subst e
              rw [hx] at hy
              cases hy
              exact h
            · exact HJ.out j y (by omega) hy
          generalize exitR L x = sb at h3 hrf next
          have H5 := Lib.hid h3
          have NX := Lib.hid next
          clear h3 next hx hrow
          go_wp2_with fail
          refine wp_region_ext (by kernel_rfl) (by kernel_rfl) fun hx => ?_
          repeat (go_big_quiet_step ((go_at_call 47; exact Calls.ext (H5.out _ (bchain BV.out (Ext.below _))))))
          refine wpQuiet_nil ?_
          intro w5 b5
          have HB5 := Lib.hid (bchain HBr.out b5)
          clear b5
          cases sb
          · obtain rfl := hrf rfl
            go_wp2
            go_ret
            exact ⟨rfl, bchain HB.out HB5.out⟩
          · go_wp2
            go_roundw
            case rel => exact ⟨n2 + 1, by omega, by go_num, NX.out (by simp), HB5⟩
            case measure => simp [intOf]; omega
        obtain rfl : n2 = L.exits.length := by omega
        have HJ2 := HJ
        go_wp2_with fail
        clear r0 r1 r2 r3 r4 r5 r6 r7 r8 r9 r10 hlt hn lw BV HJ
        obtain ⟨V2, rfl⟩ : ∃ V2 : World, V2 = V := ⟨_, rfl⟩
        have HBs2 := HBr
        clear HBr
        go_loopw [6] (fun c wr => ∃ n : Nat, n ≤ L.flanks.length ∧ c = .int .i64 n ∧ Hid (∀ (j : Nat) (y : Flk), j < n → L.flanks[j]? = some y → flankT L y = true) ∧ Hid (Below Y.heap.size Y wr)) (fun c _ => L.flanks.length - (intOf c).toNat)
        case atStart => exact ⟨0, Nat.zero_le _, rfl, Lib.hid (fun j y hj => absurd hj (Nat.not_lt_zero _)), HBs2⟩
        case round =>
          obtain ⟨n3, hn, rfl, HJ, HBr⟩ := hrel
          obtain ⟨V, rfl⟩ : ∃ V : World, V = wr := ⟨_, rfl⟩
          have xL := HX.out.below HBr.out
          have lw := xL.1
          obtain ⟨r0, r1, r2, r3, r4, r5, r6, r7, r8, r9, r10⟩ := xL.cells
          have BV := Lib.hid (bchain HB.out HBr.out)
          clear xL
          by_cases hlt : n3 < L.flanks.length
          · obtain ⟨b, off, hAe, hrow⟩ := HL.out.flanks.get hlt
            dsimp only at hAe
            subst hAe
            obtain ⟨x, hx⟩ : ∃ x, L.flanks[n3]? = some x := ⟨L.flanks[n3], List.getElem?_eq_getElem hlt⟩
            have k0 : V.cell? ⟨b, off + n3 * 4, none⟩ = some (.int .i64 x.s) := (hrow.below BV.out).2 n3 x hx 0 _ rfl
            have k1 : V.cell? ⟨b, off + n3 * 4 + 1, none⟩ = some (.int .i64 x.way) := (hrow.below BV.out).2 n3 x hx 1 _ rfl
            have k2 : V.cell? ⟨b, off + n3 * 4 + 2, none⟩ = some (.int .i64 x.pt) := (hrow.below BV.out).2 n3 x hx 2 _ rfl
            have k3 : V.cell? ⟨b, off + n3 * 4 + 3, none⟩ = some (.int .i64 x.pos) := (hrow.below BV.out).2 n3 x hx 3 _ rfl
            have lb : b < V.heap.size := (hrow.below BV.out).1
            have h3 := fun w1 hw => H4.out x w1 hw
            unfold Flk.enc at h3
            have hrf := HR.out.2.2.2.1 n3 x hx
            have next : flankT L x = true → Hid (∀ (j : Nat) (y : Flk), j < n3 + 1 → L.flanks[j]? = some y → flankT L y = true) := fun h => Lib.hid fun j y hj hy => by
              by_cases e : j = n3
              · subst e
                rw [hx] at hy
                cases hy
                exact h
              · exact HJ.out j y (by omega) hy
            generalize flankT L x = sb at h3 hrf next
            have H5 := Lib.hid h3
            have NX := Lib.hid next
            clear h3 next hx hrow
            go_wp2_with fail
            refine wp_region_ext (by kernel_rfl) (by kernel_rfl) fun hx => ?_
            repeat (go_big_quiet_step ((go_at_call 48; exact Calls.ext (H5.out _ (bchain BV.out (Ext.below _))))))
            refine wpQuiet_nil ?_
            intro w5 b5
            have HB5 := Lib.hid (bchain HBr.out b5)
            clear b5
            cases sb
            · obtain rfl := hrf rfl
              go_wp2
              go_ret
              exact ⟨rfl, bchain HB.out HB5.out⟩
            · go_wp2
              go_roundw
              case rel => exact ⟨n3 + 1, by omega, by go_num, NX.out (by simp), HB5⟩
              case measure => simp [intOf]; omega
          obtain rfl : n3 = L.flanks.length := by omega
          have HJ3 := HJ
          have HRV := Lib.hid (HR.out.2.2.2.2 HJ0.out HJ1.out HJ2.out HJ3.out)
          have fin : ∀ (b0 b1 b2 b3 : Bool), decide ((L.secs.length : Int) ≤ 24) = b0 → decide ((L.sigs.length : Int) ≤ 12) = b1 → decide ((L.exits.length : Int) ≤ 12) = b2 → decide ((L.flanks.length : Int) ≤ 16) = b3 →
              (decide (L.secs.length ≤ 24) && decide (L.sigs.length ≤ 12) && decide (L.exits.length ≤ 12) && decide (L.flanks.length ≤ 16) && tt) = (b0 && b1 && b2 && b3 && tt) := by
            intro b0 b1 b2 b3 e0 e1 e2 e3
            rw [← e0, ← e1, ← e2, ← e3]
            congr 1
            have c (n m : Nat) : decide ((n : Int) ≤ m) = decide (n ≤ m) := by rw [decide_eq_decide]; omega
            have c0 := c L.secs.length 24
            have c1 := c L.sigs.length 12
            have c2 := c L.exits.length 12
            have c3 := c L.flanks.length 16
            simp only [Int.cast_ofNat_Int] at c0 c1 c2 c3
            rw [c0, c1, c2, c3]
          have FIN := Lib.hid fin
          clear fin HR HJ0 HJ1 HJ2 HJ3 HJ
          cases d0 : decide ((L.secs.length : Int) ≤ 24)
          case false =>
            go_wp2
            go_ret
            exact ⟨ret_bool (by rw [HRV.out, FIN.out _ _ _ _ d0 rfl rfl rfl]; simp), BV.out⟩
          cases d1 : decide ((L.sigs.length : Int) ≤ 12)
          case false =>
            go_wp2
            go_ret
            exact ⟨ret_bool (by rw [HRV.out, FIN.out _ _ _ _ d0 d1 rfl rfl]; simp), BV.out⟩
          cases d2 : decide ((L.exits.length : Int) ≤ 12)
          case false =>
            go_wp2
            go_ret
            exact ⟨ret_bool (by rw [HRV.out, FIN.out _ _ _ _ d0 d1 d2 rfl]; simp), BV.out⟩
          cases d3 : decide ((L.flanks.length : Int) ≤ 16)
          case false =>
            go_wp2
            go_ret
            exact ⟨ret_bool (by rw [HRV.out, FIN.out _ _ _ _ d0 d1 d2 d3]; simp), BV.out⟩
          go_wp2_with fail
          (with_reducible refine (H6.out _).mono ?_)
          rintro e w1 ⟨rfl, b1⟩
          go_wp2
          go_ret
          exact ⟨ret_bool (by rw [HRV.out, FIN.out _ _ _ _ d0 d1 d2 d3]; simp), bchain BV.out b1⟩
end Go.Proofs.YtkphihbimdffjaaDoor
