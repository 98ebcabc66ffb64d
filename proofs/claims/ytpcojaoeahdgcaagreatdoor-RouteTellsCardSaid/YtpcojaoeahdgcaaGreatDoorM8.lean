/-
  lockbarref11.Check, Is.
-/
import Derived.Test.YtpcojaoeahdgcaaGreatDoorM7

namespace Go.Proofs.YtpcojaoeahdgcaaGreatDoor
open Go.RowKit Go.Shelf
section
set_option maxRecDepth 100000 in
set_option maxHeartbeats 32000000 in
theorem rCheck11_any (L : Lay) (P : Where) (sg ex : Int) (A V : Option Addr) (cap vcap : Nat) (xs : List Stp) (vs : List Int) (w : World) (hL : LayAt w P L) (hA : At w 3 Stp.enc A xs) (hx : xs.length ≤ 1000)
    (hV : At w 1 intEnc V vs) (hv : vs.length ≤ 9223372036854775807) :
    Calls Tryz.prog 7 #[L.val P, .agg #[.int .i64 sg, .int .i64 ex, .slice A xs.length cap], .slice V vs.length vcap] w fun e w' => e = .returned (.int .i64 (routeN L sg ex xs vs)) ∧ Below w.heap.size w w' := by
  obtain ⟨r, hr⟩ : ∃ r, r = routeN L sg ex xs vs := ⟨_, rfl⟩
  have hr0 : ¬ ArgsOk L sg ex vs → r = 2 := fun h => hr.trans (route_arg h)
  have hr1 : ∀ (n m : Nat) sp ep, sg = n → ex = m → ArgsOk L n m vs → L.sigs[n]? = some sp → L.exits[m]? = some ep → ¬ RouteOk L sp ep xs vs → r = 110 := fun n m sp ep e1 e2 h1 h2 h3 h4 => by
    subst e1 e2
    exact hr.trans (route_no h1 h2 h3 h4)
  have hr2 : ∀ (n m : Nat) sp ep, sg = n → ex = m → ArgsOk L n m vs → L.sigs[n]? = some sp → L.exits[m]? = some ep → RouteOk L sp ep xs vs → r = 0 := fun n m sp ep e1 e2 h1 h2 h3 h4 => by
    subst e1 e2
    exact hr.trans (route_yes h1 h2 h3 h4)
  rw [← hr]
  have htr := fun X (hX : Below w.heap.size w X) => rTopoRight_any L P X (hL.below hX)
  have hgo := fun X (hX : Below w.heap.size w X) => rGoes11_any L P A cap xs X (hL.below hX) (hA.below hX) (by omega)
  have hth := fun X (hX : Below w.heap.size w X) => rThrough11_any sg ex A V cap vcap xs vs X (hA.below hX) (hV.below hX) (by omega) hv
  have hsg := fun s q X (hX : Below w.heap.size w X) => rSignal_any L P s q X (hL.below hX)
  obtain ⟨qt, hqt⟩ : ∃ q, q = topoR L := ⟨_, rfl⟩
  obtain ⟨qg, hqg⟩ : ∃ q, q = goesL L xs := ⟨_, rfl⟩
  obtain ⟨qh, hqh⟩ : ∃ q, q = throughL vs xs := ⟨_, rfl⟩
  obtain ⟨n, hn⟩ : ∃ n, n = xs.length := ⟨_, rfl⟩
  obtain ⟨vn, hvn⟩ : ∃ vn, vn = vs.length := ⟨_, rfl⟩
  rw [← hqt] at htr
  rw [← hqg, ← hn] at hgo
  rw [← hqh, ← hn, ← hvn] at hth
  rw [← hn] at hx
  rw [← hvn] at hv
  rw [← hn, ← hvn]
  have m1' : L.sigs.length ≤ 9223372036854775807 := Nat.le_trans hL.l1.1 hL.l1.2
  have m2' : L.exits.length ≤ 9223372036854775807 := Nat.le_trans hL.l2.1 hL.l2.2
  have m0' : L.secs.length ≤ 9223372036854775807 := Nat.le_trans hL.l0.1 hL.l0.2
  have mn : n ≤ 9223372036854775807 := by omega
  obtain ⟨a0, a1, a2, a3, p0, p1, p2, p3⟩ := P
  unfold Lay.val at htr hgo hsg ⊢
  have HR := Lib.hid (⟨hr0, hr1, hr2⟩ : _ ∧ _ ∧ _)
  have HTR := Lib.hid htr
  have HGOA := Lib.hid hgo
  have HTHA := Lib.hid hth
  have HSIG := Lib.hid hsg
  have HQ := Lib.hid (⟨hqt, hqg, hqh, hn, hvn⟩ : _ ∧ _ ∧ _ ∧ _ ∧ _)
  have HA := Lib.hid (⟨hA, hV, hL⟩ : _ ∧ _ ∧ _)
  clear hr hr0 hr1 hr2 htr hgo hth hsg hqt hqg hqh hn hvn hA hV hL
  go_enter Tryz.func7, Tryz.ntmps7
  go_wp2_with fail
  obtain ⟨X, hX⟩ : ∃ X, X = (w.alloc (.cells #[.slice a0 L.secs.length p0, .slice a1 L.sigs.length p1, .slice a2 L.exits.length p2, .slice a3 L.flanks.length p3, .int .i64 L.t0, .int .i64 L.t1, .int .i64 L.t2, .int .i64 L.t3, .int .i64 L.t4, .int .i64 L.t5, .int .i64 L.t6] 29)).alloc (.cells #[.int .i64 sg, .int .i64 ex, .slice A n cap] 32) := ⟨_, rfl⟩
  have hB : Below w.heap.size w X := by rw [hX]; exact bchain bself bself
  have hBL : BoxL X w.heap.size L ⟨a0, a1, a2, a3, p0, p1, p2, p3⟩ := by rw [hX]; exact (BoxL.make (L := L) (p := ⟨a0, a1, a2, a3, p0, p1, p2, p3⟩) _ rfl).below bself
  have hz : ∀ o, X.cell? ⟨w.heap.size + 1, o, none⟩ = (#[.int .i64 sg, .int .i64 ex, .slice A n cap] : Array Value)[o]? := fun o => by rw [hX]; simp [go_sem]
  have hsz : X.heap.size = w.heap.size + 2 := by rw [hX]; simp
  have hall : ∀ V, ClB X V → BoxL V w.heap.size L ⟨a0, a1, a2, a3, p0, p1, p2, p3⟩ ∧ (V.cell? ⟨w.heap.size + 1, 0, none⟩ = some (.int .i64 sg) ∧ V.cell? ⟨w.heap.size + 1, 1, none⟩ = some (.int .i64 ex) ∧ V.cell? ⟨w.heap.size + 1, 2, none⟩ = some (.slice A n cap)) ∧ w.heap.size + 1 < V.heap.size := fun V hC => by
    have hs := hC.size
    have g1 : ∀ o, V.cell? ⟨w.heap.size + 1, o, none⟩ = X.cell? ⟨w.heap.size + 1, o, none⟩ := fun o => hC.cell (p := ⟨w.heap.size + 1, o, none⟩) (by rw [hsz]; dsimp only; omega)
    exact ⟨hBL.below hC, ⟨(g1 0).trans (hz 0), (g1 1).trans (hz 1), (g1 2).trans (hz 2)⟩, by omega⟩
  have HX := Lib.hid (⟨hB, hall⟩ : _ ∧ _)
  rw [← hX]
  clear hX hB hBL hz hsz hall
  (with_reducible refine (HTR.out X HX.out.1).mono ?_)
  rintro e w1 ⟨rfl, b1⟩
  have HB1 := Lib.hid (show ClB X w1 from b1)
  clear b1
  cases qt with
  | false =>
    obtain rfl : r = 2 := HR.out.1 fun h => absurd (HQ.out.1.trans h.2.2.2.1) (by simp)
    go_wp2
    go_ret
    exact ⟨rfl, bchain HX.out.1 HB1.out⟩
  | true =>
  obtain ⟨hbx, ⟨s0, s1, s2⟩, l1⟩ := HX.out.2 w1 HB1.out
  obtain ⟨c0, c1, c2, c3, c4, c5, c6, c7, c8, c9, c10⟩ := hbx.cells
  have lg := hbx.1
  dsimp only at c0 c1 c2 c3
  clear hbx
  by_cases h0 : sg < 0 ∨ L.sigs.length ≤ sg ∨ ex < 0 ∨ L.exits.length ≤ ex ∨ 2 < vn
  · obtain rfl : r = 2 := HR.out.1 fun h => by
      obtain ⟨h1, h2, h3, _⟩ := h
      rw [← HQ.out.2.2.2.2] at h3
      omega
    go_wp2_with fail
    all_goals
      first
        | (exfalso; omega)
        | (go_ret; exact ⟨rfl, bchain HX.out.1 HB1.out⟩)
  have d0 : decide (sg < 0) = false := decide_eq_false (by omega)
  have d1 : decide ((L.sigs.length : Int) ≤ sg) = false := decide_eq_false (by omega)
  have d2' : decide (ex < 0) = false := decide_eq_false (by omega)
  have d3 : decide ((L.exits.length : Int) ≤ ex) = false := decide_eq_false (by omega)
  have d4 : decide ((2 : Int) < (vn : Int)) = false := decide_eq_false (by omega)
  obtain ⟨n1, rfl⟩ : ∃ n1 : Nat, sg = n1 := ⟨sg.toNat, by omega⟩
  obtain ⟨m1, rfl⟩ : ∃ m1 : Nat, ex = m1 := ⟨ex.toNat, by omega⟩
  have hn1 : n1 < L.sigs.length := by omega
  have hm1 : m1 < L.exits.length := by omega
  have HH := Lib.hid h0
  clear h0
  go_wp2_with fail
  clear c0 c1 c2 c3 c4 c5 c6 c7 c8 c9 c10 lg s0 s1 s2 l1 d0 d1 d2' d3 d4
  go_loopw [7] (fun c wv => ∃ i : Nat, i ≤ vn ∧ c = .int .i64 i ∧ Hid (ClB X wv) ∧ Hid (∀ (j : Nat) (v : Int), j < i → vs[j]? = some v → 0 ≤ v ∧ v < L.secs.length)) (fun c _ => vn - (intOf c).toNat)
  case atStart => exact ⟨0, Nat.zero_le _, rfl, HB1, Lib.hid (fun j v hj => absurd hj (Nat.not_lt_zero _))⟩
  case round =>
  obtain ⟨i, hi, rfl, HB2, HJ⟩ := hrel
  obtain ⟨ww, hww⟩ : ∃ ww, ww = wr := ⟨_, rfl⟩
  subst hww
  by_cases hiv : i < vn
  case pos =>
    obtain ⟨hbx, _, l1⟩ := HX.out.2 ww HB2.out
    have c0 := hbx.cells.1
    have lg := hbx.1
    dsimp only at c0
    have hBw := bchain HX.out.1 HB2.out
    obtain ⟨vb, voff, hVe, hvrow⟩ := HA.out.2.1.get (j := i) (by rw [← HQ.out.2.2.2.2]; exact hiv)
    subst hVe
    obtain ⟨v, hvv⟩ : ∃ v, vs[i]? = some v := ⟨_, List.getElem?_eq_getElem (by rw [← HQ.out.2.2.2.2]; exact hiv)⟩
    have v0 : ww.cell? ⟨vb, voff + i, none⟩ = some (.int .i64 v) := (hBw.cell (p := ⟨vb, voff + i, none⟩) hvrow.1).trans (by simpa using hvrow.2 i v hvv 0 _ rfl)
    have lvb := Nat.lt_of_lt_of_le hvrow.1 hBw.size
    have HV := Lib.hid hvv
    clear hbx hvrow hvv hBw
    by_cases hv0 : v < 0
    · obtain rfl : r = 2 := HR.out.1 fun h => by
        have := (h.2.2.2.2 v (List.mem_of_getElem? HV.out)).1
        omega
      have f1 : decide (v < 0) = true := decide_eq_true hv0
      go_wp2_with fail
      go_region
      go_wp2
      go_ret
      exact ⟨rfl, (bchain HX.out.1 HB2.out).drew⟩
    have f1 : decide (v < 0) = false := decide_eq_false hv0
    by_cases hv1 : (L.secs.length : Int) ≤ v
    · obtain rfl : r = 2 := HR.out.1 fun h => by
        have := (h.2.2.2.2 v (List.mem_of_getElem? HV.out)).2
        omega
      have f2 : decide ((L.secs.length : Int) ≤ v) = true := decide_eq_true hv1
      go_wp2_with fail
      go_region
      go_wp2
      go_ret
      exact ⟨rfl, (bchain HX.out.1 HB2.out).drew⟩
    have f2 : decide ((L.secs.length : Int) ≤ v) = false := decide_eq_false hv1
    go_wp2_with fail
    go_region
    go_wp2
    go_roundw
    case rel => exact ⟨i + 1, by omega, by go_num, Lib.hid (HB2.out.step (Below.refl _ _).drew), Lib.hid (fun j u hj h => by
      by_cases e : j = i
      · subst e
        rw [HV.out] at h
        cases h
        omega
      · exact HJ.out j u (by omega) h)⟩
    case measure => simp [intOf]; omega
  obtain rfl : vn = i := by omega
  have hargs : ArgsOk L n1 m1 vs := by
    have hh := HH.out
    refine ⟨⟨by omega, by omega⟩, ⟨by omega, by omega⟩, by rw [← HQ.out.2.2.2.2]; omega, HQ.out.1.symm, fun v hv1 => ?_⟩
    obtain ⟨j, hj, rfl⟩ := List.mem_iff_getElem.1 hv1
    exact HJ.out j _ (by rw [HQ.out.2.2.2.2]; exact hj) (List.getElem?_eq_getElem hj)
  obtain ⟨sp, hsp⟩ : ∃ sp, L.sigs[n1]? = some sp := ⟨_, List.getElem?_eq_getElem hn1⟩
  obtain ⟨es0, hes, hAt, hov⟩ := HA.out.2.2.exits
  have hlen2 : es0.length = L.exits.length := by rw [← hes, List.length_map]
  obtain ⟨eb, eo, hAe, herow⟩ := hAt.get (j := m1) (by omega)
  obtain ⟨y, hy⟩ : ∃ y, es0[m1]? = some y := ⟨es0[m1]'(by omega), List.getElem?_eq_getElem (by omega)⟩
  have hep : L.exits[m1]? = some y.1 := by rw [← hes, List.getElem?_map, hy]; rfl
  have k0 : w.cell? ⟨eb, eo + m1 * 3, none⟩ = some (.int .i64 y.1.s) := herow.2 m1 y hy 0 _ rfl
  have k1 : w.cell? ⟨eb, eo + m1 * 3 + 1, none⟩ = some (.int .i64 y.1.p) := herow.2 m1 y hy 1 _ rfl
  have k2 : w.cell? ⟨eb, eo + m1 * 3 + 2, none⟩ = some y.2 := herow.2 m1 y hy 2 _ rfl
  obtain ⟨oA, oc, ove, hvl, hvm2, hva⟩ := hov y (List.mem_of_getElem? hy)
  have hcc := HR.out.2.1 n1 m1 sp y.1 rfl rfl hargs hsp hep
  have hdd := HR.out.2.2 n1 m1 sp y.1 rfl rfl hargs hsp hep
  rw [ove] at k2
  dsimp only at hAe
  subst hAe
  obtain ⟨⟨es, ep, ov⟩, yv⟩ := y
  dsimp only at k0 k1 k2 hcc hdd hvl hva
  have hsm := fun X (hX : Below w.heap.size w X) => rSimple_any A oA cap oc xs ov X (HA.out.1.below hX) (hva.below hX) (by rw [← HQ.out.2.2.2.1]; exact mn) (Nat.le_trans hvl hvm2)
  obtain ⟨ol, hol⟩ : ∃ ol, ol = ov.length := ⟨_, rfl⟩
  obtain ⟨qs, hqs⟩ : ∃ qs, qs = simpleL xs ov := ⟨_, rfl⟩
  rw [← hol, ← hqs, ← HQ.out.2.2.2.1] at hsm
  rw [← hol] at k2
  have HRR := Lib.hid (⟨hcc, hdd⟩ : _ ∧ _)
  have HEC := Lib.hid (⟨k0, k1, k2, herow.1, hqs⟩ : _ ∧ _ ∧ _ ∧ _ ∧ _)
  have HSMA := Lib.hid hsm
  have HU := Lib.hid (⟨bchain HX.out.1 HB2.out, HB2.out⟩ : _ ∧ _)
  clear hcc hdd hargs hes hAt hov hlen2 herow hy hep ove hvl hvm2 hva hsm hol hqs k0 k1 k2
  obtain ⟨hbx, ⟨s0, s1, s2⟩, l1⟩ := HX.out.2 ww HB2.out
  clear hbx
  go_upto_region 9 with fail
  clear s0 s1 s2 l1
  have q0 : ∀ V', ClB ww V' → V'.cell? ⟨w.heap.size + 1, 0, none⟩ = some (.int .i64 (n1 : Nat)) := fun V' h => (HX.out.2 V' (bchain HU.out.2 h)).2.1.1
  have q1 : ∀ V', ClB ww V' → V'.cell? ⟨w.heap.size + 1, 1, none⟩ = some (.int .i64 (m1 : Nat)) := fun V' h => (HX.out.2 V' (bchain HU.out.2 h)).2.1.2.1
  have q2 : ∀ V', ClB ww V' → V'.cell? ⟨w.heap.size + 1, 2, none⟩ = some (.slice A n cap) := fun V' h => (HX.out.2 V' (bchain HU.out.2 h)).2.1.2.2
  have d2 : ∀ V', ClB ww V' → V'.cell? ⟨w.heap.size, 2, none⟩ = some (.slice (some ⟨eb, eo, none⟩) L.exits.length p2) := fun V' h => (HX.out.2 V' (bchain HU.out.2 h)).1.cells.2.2.1
  have j2 : ∀ V', ClB ww V' → V'.cell? ⟨eb, eo + m1 * 3 + 2, none⟩ = some (.slice oA ol oc) := fun V' h => ((bchain HU.out.1 h).cell (p := ⟨eb, eo + m1 * 3 + 2, none⟩) HEC.out.2.2.2.1).trans HEC.out.2.2.1
  have HBX := Lib.hid ((HX.out.2 ww HU.out.2).1)
  have HGO := Lib.hid (fun V' (h : ClB ww V') => HGOA.out V' (bchain HU.out.1 h))
  have HSM := Lib.hid (fun V' (h : ClB ww V') => HSMA.out V' (bchain HU.out.1 h))
  have HTH := Lib.hid (fun V' (h : ClB ww V') => HTHA.out V' (bchain HU.out.1 h))
  by_cases hl0 : n = 0
  · subst hl0
    obtain rfl : r = 110 := HRR.out.1 fun h => by have := h.1.1; have := HQ.out.2.2.2.1; omega
    clear q0 q1 q2 d2 j2
    focus
      refine wp_region_rel_below [([(8, none)], none), ([(68, some 0)], none), ([(69, some 0)], none), ([(8, none), (70, some 0)], some (70, false)), ([(71, some 0), (70, some 1)], some (70, false)), ([(70, some 2), (72, some 0)], none), ([(73, some 0)], none), ([(3, none), (74, some 0)], some (74, false)), ([(4, none), (74, some 1)], some (74, false)), ([(76, some 0), (74, some 2)], some (74, false)), ([(75, some 2), (77, some 0), (74, some 3)], some (74, false)), ([(78, some 0), (74, some 4)], some (74, false)), ([(74, some 5), (79, some 0)], none), ([(80, some 0)], none), ([(4, none), (81, some 0)], some (81, false)), ([(82, some 0), (81, some 1)], some (81, false)), ([(3, none), (81, some 2)], some (81, false)), ([(84, some 0), (81, some 3)], some (81, false)), ([(4, none), (81, some 4)], some (81, false)), ([(86, some 0), (81, some 5)], some (81, false)), ([(85, some 2), (87, some 0), (81, some 6)], some (81, false)), ([(88, some 0), (81, some 7)], some (81, false)), ([(89, some 0), (81, some 8)], some (81, false)), ([(83, some 7), (90, some 0), (81, some 9)], some (81, false)), ([(91, some 0), (81, some 10)], some (81, false)), ([(81, some 11), (92, some 0)], none), ([(93, some 0)], none), ([(4, none), (94, some 0)], some (94, false)), ([(2, none), (94, some 1)], some (94, false)), ([(95, some 1), (96, some 0), (94, some 2)], some (94, false)), ([(97, some 0), (94, some 3)], some (94, false)), ([(94, some 4), (98, some 0)], none)] [(0, 99)] (by kernel_rfl) (by kernel_rfl) ?_
      refine ob_det (c := .int .i64 (0 : Nat)) ?_ ?_
      · intro ρ W hk hC
        simp only [seen, obOp]
        rintro h8
        replace h8 : ρ (.tmp 8) = .int .i64 (0 : Nat) := h8.trans rfl
        exact rel_value (by simp [go_sem, h8]) hC
      refine ob_det (c := .bool true) ?_ ?_
      · intro ρ W hk hC
        simp only [seen, obOp, List.getD_cons_zero]
        rintro h68
        exact rel_value (by simp [go_sem, h68, hk.const]) hC
      refine ob_det (c := .bool true) ?_ ?_
      · intro ρ W hk hC
        simp only [seen, obOp, List.getD_cons_zero]
        rintro h69
        exact rel_value (by simp [go_sem, h69]) hC
      refine ob_det (c := undef) ?_ ?_
      · intro ρ W hk hC
        simp only [seen, obOp, List.getD_cons_zero]
        rintro h8 h70
        replace h8 : ρ (.tmp 8) = .int .i64 (0 : Nat) := h8.trans rfl
        exact ⟨fun h => absurd (h.symm.trans h70) (by first | simp | simp [undef]), fun _ => by trivial⟩
      refine ob_det (c := undef) ?_ ?_
      · intro ρ W hk hC
        simp only [seen, obOp, List.getD_cons_zero, List.getD_cons_succ]
        rintro h71 h70
        exact ⟨fun h => absurd (h.symm.trans h70) (by first | simp | simp [undef]), fun _ => by trivial⟩
      refine ob_det (c := .bool true) ?_ ?_
      · intro ρ W hk hC
        simp only [seen, obOp, List.getD_cons_zero, List.getD_cons_succ]
        rintro h70 h72
        exact rel_value (by simp [go_sem, h70, h72, hk.const]) hC
      refine ob_det (c := .bool true) ?_ ?_
      · intro ρ W hk hC
        simp only [seen, obOp, List.getD_cons_zero]
        rintro h73
        exact rel_value (by simp [go_sem, h73]) hC
      refine ob_det (c := undef) ?_ ?_
      · intro ρ W hk hC
        simp only [seen, obOp, List.getD_cons_zero]
        rintro h3 h74
        replace h3 : ρ (.tmp 3) = .pointer (some ⟨w.heap.size, 0, none⟩) := h3.trans rfl
        exact ⟨fun h => absurd (h.symm.trans h74) (by first | simp | simp [undef]), fun _ => by trivial⟩
      refine ob_det (c := undef) ?_ ?_
      · intro ρ W hk hC
        simp only [seen, obOp, List.getD_cons_zero, List.getD_cons_succ]
        rintro h4 h74
        replace h4 : ρ (.tmp 4) = .pointer (some ⟨w.heap.size + 1, 0, none⟩) := h4.trans rfl
        exact ⟨fun h => absurd (h.symm.trans h74) (by first | simp | simp [undef]), fun _ => by trivial⟩
      refine ob_det (c := undef) ?_ ?_
      · intro ρ W hk hC
        simp only [seen, obOp, List.getD_cons_zero, List.getD_cons_succ]
        rintro h76 h74
        exact ⟨fun h => absurd (h.symm.trans h74) (by first | simp | simp [undef]), fun _ => by trivial⟩
      refine ob_det (c := undef) ?_ ?_
      · intro ρ W hk hC
        simp only [seen, obOp, List.getD_cons_zero, List.getD_cons_succ]
        rintro h75 h77 h74
        exact ⟨fun h => absurd (h.symm.trans h74) (by first | simp | simp [undef]), fun _ => by trivial⟩
      refine ob_det (c := undef) ?_ ?_
      · intro ρ W hk hC
        simp only [seen, obOp, List.getD_cons_zero, List.getD_cons_succ]
        rintro h78 h74
        exact ⟨fun h => absurd (h.symm.trans h74) (by first | simp | simp [undef]), fun _ => by trivial⟩
      refine ob_det (c := .bool true) ?_ ?_
      · intro ρ W hk hC
        simp only [seen, obOp, List.getD_cons_zero, List.getD_cons_succ]
        rintro h74 h79
        exact rel_value (by simp [go_sem, h74, h79, hk.const]) hC
      refine ob_det (c := .bool true) ?_ ?_
      · intro ρ W hk hC
        simp only [seen, obOp, List.getD_cons_zero]
        rintro h80
        exact rel_value (by simp [go_sem, h80]) hC
      refine ob_det (c := undef) ?_ ?_
      · intro ρ W hk hC
        simp only [seen, obOp, List.getD_cons_zero]
        rintro h4 h81
        replace h4 : ρ (.tmp 4) = .pointer (some ⟨w.heap.size + 1, 0, none⟩) := h4.trans rfl
        exact ⟨fun h => absurd (h.symm.trans h81) (by first | simp | simp [undef]), fun _ => by trivial⟩
      refine ob_det (c := undef) ?_ ?_
      · intro ρ W hk hC
        simp only [seen, obOp, List.getD_cons_zero, List.getD_cons_succ]
        rintro h82 h81
        exact ⟨fun h => absurd (h.symm.trans h81) (by first | simp | simp [undef]), fun _ => by trivial⟩
      refine ob_det (c := undef) ?_ ?_
      · intro ρ W hk hC
        simp only [seen, obOp, List.getD_cons_zero, List.getD_cons_succ]
        rintro h3 h81
        replace h3 : ρ (.tmp 3) = .pointer (some ⟨w.heap.size, 0, none⟩) := h3.trans rfl
        exact ⟨fun h => absurd (h.symm.trans h81) (by first | simp | simp [undef]), fun _ => by trivial⟩
      refine ob_det (c := undef) ?_ ?_
      · intro ρ W hk hC
        simp only [seen, obOp, List.getD_cons_zero, List.getD_cons_succ]
        rintro h84 h81
        exact ⟨fun h => absurd (h.symm.trans h81) (by first | simp | simp [undef]), fun _ => by trivial⟩
      refine ob_det (c := undef) ?_ ?_
      · intro ρ W hk hC
        simp only [seen, obOp, List.getD_cons_zero, List.getD_cons_succ]
        rintro h4 h81
        replace h4 : ρ (.tmp 4) = .pointer (some ⟨w.heap.size + 1, 0, none⟩) := h4.trans rfl
        exact ⟨fun h => absurd (h.symm.trans h81) (by first | simp | simp [undef]), fun _ => by trivial⟩
      refine ob_det (c := undef) ?_ ?_
      · intro ρ W hk hC
        simp only [seen, obOp, List.getD_cons_zero, List.getD_cons_succ]
        rintro h86 h81
        exact ⟨fun h => absurd (h.symm.trans h81) (by first | simp | simp [undef]), fun _ => by trivial⟩
      refine ob_det (c := undef) ?_ ?_
      · intro ρ W hk hC
        simp only [seen, obOp, List.getD_cons_zero, List.getD_cons_succ]
        rintro h85 h87 h81
        exact ⟨fun h => absurd (h.symm.trans h81) (by first | simp | simp [undef]), fun _ => by trivial⟩
      refine ob_det (c := undef) ?_ ?_
      · intro ρ W hk hC
        simp only [seen, obOp, List.getD_cons_zero, List.getD_cons_succ]
        rintro h88 h81
        exact ⟨fun h => absurd (h.symm.trans h81) (by first | simp | simp [undef]), fun _ => by trivial⟩
      refine ob_det (c := undef) ?_ ?_
      · intro ρ W hk hC
        simp only [seen, obOp, List.getD_cons_zero, List.getD_cons_succ]
        rintro h89 h81
        exact ⟨fun h => absurd (h.symm.trans h81) (by first | simp | simp [undef]), fun _ => by trivial⟩
      refine ob_det (c := undef) ?_ ?_
      · intro ρ W hk hC
        simp only [seen, obOp, List.getD_cons_zero, List.getD_cons_succ]
        rintro h83 h90 h81
        exact ⟨fun h => absurd (h.symm.trans h81) (by first | simp | simp [undef]), fun _ => by trivial⟩
      refine ob_det (c := undef) ?_ ?_
      · intro ρ W hk hC
        simp only [seen, obOp, List.getD_cons_zero, List.getD_cons_succ]
        rintro h91 h81
        exact ⟨fun h => absurd (h.symm.trans h81) (by first | simp | simp [undef]), fun _ => by trivial⟩
      refine ob_det (c := .bool true) ?_ ?_
      · intro ρ W hk hC
        simp only [seen, obOp, List.getD_cons_zero, List.getD_cons_succ]
        rintro h81 h92
        exact rel_value (by simp [go_sem, h81, h92, hk.const]) hC
      refine ob_det (c := .bool true) ?_ ?_
      · intro ρ W hk hC
        simp only [seen, obOp, List.getD_cons_zero]
        rintro h93
        exact rel_value (by simp [go_sem, h93]) hC
      refine ob_det (c := undef) ?_ ?_
      · intro ρ W hk hC
        simp only [seen, obOp, List.getD_cons_zero]
        rintro h4 h94
        replace h4 : ρ (.tmp 4) = .pointer (some ⟨w.heap.size + 1, 0, none⟩) := h4.trans rfl
        exact ⟨fun h => absurd (h.symm.trans h94) (by first | simp | simp [undef]), fun _ => by trivial⟩
      refine ob_det (c := undef) ?_ ?_
      · intro ρ W hk hC
        simp only [seen, obOp, List.getD_cons_zero, List.getD_cons_succ]
        rintro h2 h94
        replace h2 : ρ (.tmp 2) = .slice V vn vcap := h2.trans rfl
        exact ⟨fun h => absurd (h.symm.trans h94) (by first | simp | simp [undef]), fun _ => by trivial⟩
      refine ob_det (c := undef) ?_ ?_
      · intro ρ W hk hC
        simp only [seen, obOp, List.getD_cons_zero, List.getD_cons_succ]
        rintro h95 h96 h94
        exact ⟨fun h => absurd (h.symm.trans h94) (by first | simp | simp [undef]), fun _ => by trivial⟩
      refine ob_det (c := undef) ?_ ?_
      · intro ρ W hk hC
        simp only [seen, obOp, List.getD_cons_zero, List.getD_cons_succ]
        rintro h97 h94
        exact ⟨fun h => absurd (h.symm.trans h94) (by first | simp | simp [undef]), fun _ => by trivial⟩
      refine ob_det (c := .bool true) ?_ ?_
      · intro ρ W hk hC
        simp only [seen, obOp, List.getD_cons_zero, List.getD_cons_succ]
        rintro h94 h98
        exact rel_value (by simp [go_sem, h94, h98, hk.const]) hC
      intro vs9 w9 hC9
      simp only [endSeen, List.getD_cons_zero]
      intro h99
      simp only [writeAll, List.setIfInBounds_toArray, List.set_cons_zero, List.set_cons_succ, h99]
      go_wp2
      go_ret
      exact ⟨rfl, bchain HU.out.1 hC9⟩
  have hc1 : decide ((n : Int) < 1) = false := decide_eq_false (by omega)
  by_cases hl12 : 12 < n
  · obtain rfl : r = 110 := HRR.out.1 fun h => by have := h.1.2; have := HQ.out.2.2.2.1; omega
    have hc12 : decide ((12 : Int) < (n : Int)) = true := decide_eq_true (by omega)
    clear q0 q1 q2 d2 j2
    focus
      refine wp_region_rel_below [([(8, none)], none), ([(68, some 0)], none), ([(69, some 0)], none), ([(8, none), (70, some 0)], some (70, false)), ([(71, some 0), (70, some 1)], some (70, false)), ([(70, some 2), (72, some 0)], none), ([(73, some 0)], none), ([(3, none), (74, some 0)], some (74, false)), ([(4, none), (74, some 1)], some (74, false)), ([(76, some 0), (74, some 2)], some (74, false)), ([(75, some 2), (77, some 0), (74, some 3)], some (74, false)), ([(78, some 0), (74, some 4)], some (74, false)), ([(74, some 5), (79, some 0)], none), ([(80, some 0)], none), ([(4, none), (81, some 0)], some (81, false)), ([(82, some 0), (81, some 1)], some (81, false)), ([(3, none), (81, some 2)], some (81, false)), ([(84, some 0), (81, some 3)], some (81, false)), ([(4, none), (81, some 4)], some (81, false)), ([(86, some 0), (81, some 5)], some (81, false)), ([(85, some 2), (87, some 0), (81, some 6)], some (81, false)), ([(88, some 0), (81, some 7)], some (81, false)), ([(89, some 0), (81, some 8)], some (81, false)), ([(83, some 7), (90, some 0), (81, some 9)], some (81, false)), ([(91, some 0), (81, some 10)], some (81, false)), ([(81, some 11), (92, some 0)], none), ([(93, some 0)], none), ([(4, none), (94, some 0)], some (94, false)), ([(2, none), (94, some 1)], some (94, false)), ([(95, some 1), (96, some 0), (94, some 2)], some (94, false)), ([(97, some 0), (94, some 3)], some (94, false)), ([(94, some 4), (98, some 0)], none)] [(0, 99)] (by kernel_rfl) (by kernel_rfl) ?_
      refine ob_det (c := .int .i64 n) ?_ ?_
      · intro ρ W hk hC
        simp only [seen, obOp]
        rintro h8
        replace h8 : ρ (.tmp 8) = .int .i64 n := h8.trans rfl
        exact rel_value (by simp [go_sem, h8]) hC
      refine ob_det (c := .bool false) ?_ ?_
      · intro ρ W hk hC
        simp only [seen, obOp, List.getD_cons_zero]
        rintro h68
        exact rel_value (by simp [go_sem, h68, hk.const, hc1]) hC
      refine ob_det (c := .bool false) ?_ ?_
      · intro ρ W hk hC
        simp only [seen, obOp, List.getD_cons_zero]
        rintro h69
        exact rel_value (by simp [go_sem, h69]) hC
      refine ob_det (c := .int .i64 n) ?_ ?_
      · intro ρ W hk hC
        simp only [seen, obOp, List.getD_cons_zero]
        rintro h8 h70
        replace h8 : ρ (.tmp 8) = .int .i64 n := h8.trans rfl
        refine ⟨fun _ => ?_, fun hn => absurd h70 hn⟩
        exact rel_value (by simp [go_sem, h8]) hC
      refine ob_det (c := .bool true) ?_ ?_
      · intro ρ W hk hC
        simp only [seen, obOp, List.getD_cons_zero, List.getD_cons_succ]
        rintro h71 h70
        refine ⟨fun _ => ?_, fun hn => absurd h70 hn⟩
        exact rel_value (by simp [go_sem, h71, hk.const, hc12]) hC
      refine ob_det (c := .bool true) ?_ ?_
      · intro ρ W hk hC
        simp only [seen, obOp, List.getD_cons_zero, List.getD_cons_succ]
        rintro h70 h72
        exact rel_value (by simp [go_sem, h70, h72, hk.const]) hC
      refine ob_det (c := .bool true) ?_ ?_
      · intro ρ W hk hC
        simp only [seen, obOp, List.getD_cons_zero]
        rintro h73
        exact rel_value (by simp [go_sem, h73]) hC
      refine ob_det (c := undef) ?_ ?_
      · intro ρ W hk hC
        simp only [seen, obOp, List.getD_cons_zero]
        rintro h3 h74
        replace h3 : ρ (.tmp 3) = .pointer (some ⟨w.heap.size, 0, none⟩) := h3.trans rfl
        exact ⟨fun h => absurd (h.symm.trans h74) (by first | simp | simp [undef]), fun _ => by trivial⟩
      refine ob_det (c := undef) ?_ ?_
      · intro ρ W hk hC
        simp only [seen, obOp, List.getD_cons_zero, List.getD_cons_succ]
        rintro h4 h74
        replace h4 : ρ (.tmp 4) = .pointer (some ⟨w.heap.size + 1, 0, none⟩) := h4.trans rfl
        exact ⟨fun h => absurd (h.symm.trans h74) (by first | simp | simp [undef]), fun _ => by trivial⟩
      refine ob_det (c := undef) ?_ ?_
      · intro ρ W hk hC
        simp only [seen, obOp, List.getD_cons_zero, List.getD_cons_succ]
        rintro h76 h74
        exact ⟨fun h => absurd (h.symm.trans h74) (by first | simp | simp [undef]), fun _ => by trivial⟩
      refine ob_det (c := undef) ?_ ?_
      · intro ρ W hk hC
        simp only [seen, obOp, List.getD_cons_zero, List.getD_cons_succ]
        rintro h75 h77 h74
        exact ⟨fun h => absurd (h.symm.trans h74) (by first | simp | simp [undef]), fun _ => by trivial⟩
      refine ob_det (c := undef) ?_ ?_
      · intro ρ W hk hC
        simp only [seen, obOp, List.getD_cons_zero, List.getD_cons_succ]
        rintro h78 h74
        exact ⟨fun h => absurd (h.symm.trans h74) (by first | simp | simp [undef]), fun _ => by trivial⟩
      refine ob_det (c := .bool true) ?_ ?_
      · intro ρ W hk hC
        simp only [seen, obOp, List.getD_cons_zero, List.getD_cons_succ]
        rintro h74 h79
        exact rel_value (by simp [go_sem, h74, h79, hk.const]) hC
      refine ob_det (c := .bool true) ?_ ?_
      · intro ρ W hk hC
        simp only [seen, obOp, List.getD_cons_zero]
        rintro h80
        exact rel_value (by simp [go_sem, h80]) hC
      refine ob_det (c := undef) ?_ ?_
      · intro ρ W hk hC
        simp only [seen, obOp, List.getD_cons_zero]
        rintro h4 h81
        replace h4 : ρ (.tmp 4) = .pointer (some ⟨w.heap.size + 1, 0, none⟩) := h4.trans rfl
        exact ⟨fun h => absurd (h.symm.trans h81) (by first | simp | simp [undef]), fun _ => by trivial⟩
      refine ob_det (c := undef) ?_ ?_
      · intro ρ W hk hC
        simp only [seen, obOp, List.getD_cons_zero, List.getD_cons_succ]
        rintro h82 h81
        exact ⟨fun h => absurd (h.symm.trans h81) (by first | simp | simp [undef]), fun _ => by trivial⟩
      refine ob_det (c := undef) ?_ ?_
      · intro ρ W hk hC
        simp only [seen, obOp, List.getD_cons_zero, List.getD_cons_succ]
        rintro h3 h81
        replace h3 : ρ (.tmp 3) = .pointer (some ⟨w.heap.size, 0, none⟩) := h3.trans rfl
        exact ⟨fun h => absurd (h.symm.trans h81) (by first | simp | simp [undef]), fun _ => by trivial⟩
      refine ob_det (c := undef) ?_ ?_
      · intro ρ W hk hC
        simp only [seen, obOp, List.getD_cons_zero, List.getD_cons_succ]
        rintro h84 h81
        exact ⟨fun h => absurd (h.symm.trans h81) (by first | simp | simp [undef]), fun _ => by trivial⟩
      refine ob_det (c := undef) ?_ ?_
      · intro ρ W hk hC
        simp only [seen, obOp, List.getD_cons_zero, List.getD_cons_succ]
        rintro h4 h81
        replace h4 : ρ (.tmp 4) = .pointer (some ⟨w.heap.size + 1, 0, none⟩) := h4.trans rfl
        exact ⟨fun h => absurd (h.symm.trans h81) (by first | simp | simp [undef]), fun _ => by trivial⟩
      refine ob_det (c := undef) ?_ ?_
      · intro ρ W hk hC
        simp only [seen, obOp, List.getD_cons_zero, List.getD_cons_succ]
        rintro h86 h81
        exact ⟨fun h => absurd (h.symm.trans h81) (by first | simp | simp [undef]), fun _ => by trivial⟩
      refine ob_det (c := undef) ?_ ?_
      · intro ρ W hk hC
        simp only [seen, obOp, List.getD_cons_zero, List.getD_cons_succ]
        rintro h85 h87 h81
        exact ⟨fun h => absurd (h.symm.trans h81) (by first | simp | simp [undef]), fun _ => by trivial⟩
      refine ob_det (c := undef) ?_ ?_
      · intro ρ W hk hC
        simp only [seen, obOp, List.getD_cons_zero, List.getD_cons_succ]
        rintro h88 h81
        exact ⟨fun h => absurd (h.symm.trans h81) (by first | simp | simp [undef]), fun _ => by trivial⟩
      refine ob_det (c := undef) ?_ ?_
      · intro ρ W hk hC
        simp only [seen, obOp, List.getD_cons_zero, List.getD_cons_succ]
        rintro h89 h81
        exact ⟨fun h => absurd (h.symm.trans h81) (by first | simp | simp [undef]), fun _ => by trivial⟩
      refine ob_det (c := undef) ?_ ?_
      · intro ρ W hk hC
        simp only [seen, obOp, List.getD_cons_zero, List.getD_cons_succ]
        rintro h83 h90 h81
        exact ⟨fun h => absurd (h.symm.trans h81) (by first | simp | simp [undef]), fun _ => by trivial⟩
      refine ob_det (c := undef) ?_ ?_
      · intro ρ W hk hC
        simp only [seen, obOp, List.getD_cons_zero, List.getD_cons_succ]
        rintro h91 h81
        exact ⟨fun h => absurd (h.symm.trans h81) (by first | simp | simp [undef]), fun _ => by trivial⟩
      refine ob_det (c := .bool true) ?_ ?_
      · intro ρ W hk hC
        simp only [seen, obOp, List.getD_cons_zero, List.getD_cons_succ]
        rintro h81 h92
        exact rel_value (by simp [go_sem, h81, h92, hk.const]) hC
      refine ob_det (c := .bool true) ?_ ?_
      · intro ρ W hk hC
        simp only [seen, obOp, List.getD_cons_zero]
        rintro h93
        exact rel_value (by simp [go_sem, h93]) hC
      refine ob_det (c := undef) ?_ ?_
      · intro ρ W hk hC
        simp only [seen, obOp, List.getD_cons_zero]
        rintro h4 h94
        replace h4 : ρ (.tmp 4) = .pointer (some ⟨w.heap.size + 1, 0, none⟩) := h4.trans rfl
        exact ⟨fun h => absurd (h.symm.trans h94) (by first | simp | simp [undef]), fun _ => by trivial⟩
      refine ob_det (c := undef) ?_ ?_
      · intro ρ W hk hC
        simp only [seen, obOp, List.getD_cons_zero, List.getD_cons_succ]
        rintro h2 h94
        replace h2 : ρ (.tmp 2) = .slice V vn vcap := h2.trans rfl
        exact ⟨fun h => absurd (h.symm.trans h94) (by first | simp | simp [undef]), fun _ => by trivial⟩
      refine ob_det (c := undef) ?_ ?_
      · intro ρ W hk hC
        simp only [seen, obOp, List.getD_cons_zero, List.getD_cons_succ]
        rintro h95 h96 h94
        exact ⟨fun h => absurd (h.symm.trans h94) (by first | simp | simp [undef]), fun _ => by trivial⟩
      refine ob_det (c := undef) ?_ ?_
      · intro ρ W hk hC
        simp only [seen, obOp, List.getD_cons_zero, List.getD_cons_succ]
        rintro h97 h94
        exact ⟨fun h => absurd (h.symm.trans h94) (by first | simp | simp [undef]), fun _ => by trivial⟩
      refine ob_det (c := .bool true) ?_ ?_
      · intro ρ W hk hC
        simp only [seen, obOp, List.getD_cons_zero, List.getD_cons_succ]
        rintro h94 h98
        exact rel_value (by simp [go_sem, h94, h98, hk.const]) hC
      intro vs9 w9 hC9
      simp only [endSeen, List.getD_cons_zero]
      intro h99
      simp only [writeAll, List.setIfInBounds_toArray, List.set_cons_zero, List.set_cons_succ, h99]
      go_wp2
      go_ret
      exact ⟨rfl, bchain HU.out.1 hC9⟩
  have hc12 : decide ((12 : Int) < (n : Int)) = false := decide_eq_false (by omega)
  cases qg with
  | false =>
    obtain rfl : r = 110 := HRR.out.1 fun h => absurd (HQ.out.2.1.trans h.2.2.2.1) (by simp)
    clear q0 q1 d2 j2
    focus
      refine wp_region_rel_below [([(8, none)], none), ([(68, some 0)], none), ([(69, some 0)], none), ([(8, none), (70, some 0)], some (70, false)), ([(71, some 0), (70, some 1)], some (70, false)), ([(70, some 2), (72, some 0)], none), ([(73, some 0)], none), ([(3, none), (74, some 0)], some (74, false)), ([(4, none), (74, some 1)], some (74, false)), ([(76, some 0), (74, some 2)], some (74, false)), ([(75, some 2), (77, some 0), (74, some 3)], some (74, false)), ([(78, some 0), (74, some 4)], some (74, false)), ([(74, some 5), (79, some 0)], none), ([(80, some 0)], none), ([(4, none), (81, some 0)], some (81, false)), ([(82, some 0), (81, some 1)], some (81, false)), ([(3, none), (81, some 2)], some (81, false)), ([(84, some 0), (81, some 3)], some (81, false)), ([(4, none), (81, some 4)], some (81, false)), ([(86, some 0), (81, some 5)], some (81, false)), ([(85, some 2), (87, some 0), (81, some 6)], some (81, false)), ([(88, some 0), (81, some 7)], some (81, false)), ([(89, some 0), (81, some 8)], some (81, false)), ([(83, some 7), (90, some 0), (81, some 9)], some (81, false)), ([(91, some 0), (81, some 10)], some (81, false)), ([(81, some 11), (92, some 0)], none), ([(93, some 0)], none), ([(4, none), (94, some 0)], some (94, false)), ([(2, none), (94, some 1)], some (94, false)), ([(95, some 1), (96, some 0), (94, some 2)], some (94, false)), ([(97, some 0), (94, some 3)], some (94, false)), ([(94, some 4), (98, some 0)], none)] [(0, 99)] (by kernel_rfl) (by kernel_rfl) ?_
      refine ob_det (c := .int .i64 n) ?_ ?_
      · intro ρ W hk hC
        simp only [seen, obOp]
        rintro h8
        replace h8 : ρ (.tmp 8) = .int .i64 n := h8.trans rfl
        exact rel_value (by simp [go_sem, h8]) hC
      refine ob_det (c := .bool false) ?_ ?_
      · intro ρ W hk hC
        simp only [seen, obOp, List.getD_cons_zero]
        rintro h68
        exact rel_value (by simp [go_sem, h68, hk.const, hc1]) hC
      refine ob_det (c := .bool false) ?_ ?_
      · intro ρ W hk hC
        simp only [seen, obOp, List.getD_cons_zero]
        rintro h69
        exact rel_value (by simp [go_sem, h69]) hC
      refine ob_det (c := .int .i64 n) ?_ ?_
      · intro ρ W hk hC
        simp only [seen, obOp, List.getD_cons_zero]
        rintro h8 h70
        replace h8 : ρ (.tmp 8) = .int .i64 n := h8.trans rfl
        refine ⟨fun _ => ?_, fun hn => absurd h70 hn⟩
        exact rel_value (by simp [go_sem, h8]) hC
      refine ob_det (c := .bool false) ?_ ?_
      · intro ρ W hk hC
        simp only [seen, obOp, List.getD_cons_zero, List.getD_cons_succ]
        rintro h71 h70
        refine ⟨fun _ => ?_, fun hn => absurd h70 hn⟩
        exact rel_value (by simp [go_sem, h71, hk.const, hc12]) hC
      refine ob_det (c := .bool false) ?_ ?_
      · intro ρ W hk hC
        simp only [seen, obOp, List.getD_cons_zero, List.getD_cons_succ]
        rintro h70 h72
        exact rel_value (by simp [go_sem, h70, h72, hk.const]) hC
      refine ob_det (c := .bool false) ?_ ?_
      · intro ρ W hk hC
        simp only [seen, obOp, List.getD_cons_zero]
        rintro h73
        exact rel_value (by simp [go_sem, h73]) hC
      refine ob_det (c := .agg #[.slice a0 L.secs.length p0, .slice a1 L.sigs.length p1, .slice (some ⟨eb, eo, none⟩) L.exits.length p2, .slice a3 L.flanks.length p3, .int .i64 L.t0, .int .i64 L.t1, .int .i64 L.t2, .int .i64 L.t3, .int .i64 L.t4, .int .i64 L.t5, .int .i64 L.t6]) ?_ ?_
      · intro ρ W hk hC
        simp only [seen, obOp, List.getD_cons_zero]
        rintro h3 h74
        replace h3 : ρ (.tmp 3) = .pointer (some ⟨w.heap.size, 0, none⟩) := h3.trans rfl
        refine ⟨fun _ => ?_, fun hn => absurd h74 hn⟩
        exact rel_value (runLoad h3 (HBX.out.below hC)) hC
      refine ob_det (c := .pointer (some ⟨w.heap.size + 1, 2, none⟩)) ?_ ?_
      · intro ρ W hk hC
        simp only [seen, obOp, List.getD_cons_zero, List.getD_cons_succ]
        rintro h4 h74
        replace h4 : ρ (.tmp 4) = .pointer (some ⟨w.heap.size + 1, 0, none⟩) := h4.trans rfl
        refine ⟨fun _ => ?_, fun hn => absurd h74 hn⟩
        exact rel_value (by simp [go_sem, h4]) hC
      refine ob_det (c := .slice A n cap) ?_ ?_
      · intro ρ W hk hC
        simp only [seen, obOp, List.getD_cons_zero, List.getD_cons_succ]
        rintro h76 h74
        refine ⟨fun _ => ?_, fun hn => absurd h74 hn⟩
        exact rel_value (by simp [go_sem, h76, q2 W hC]) hC
      refine ob_det (c := .bool false) ?_ ?_
      · intro ρ W hk hC
        simp only [seen, obOp, List.getD_cons_zero, List.getD_cons_succ]
        rintro h75 h77 h74
        refine ⟨fun _ => ?_, fun hn => absurd h74 hn⟩
        exact rel_call (f := 11) (args := #[.agg #[.slice a0 L.secs.length p0, .slice a1 L.sigs.length p1, .slice (some ⟨eb, eo, none⟩) L.exits.length p2, .slice a3 L.flanks.length p3, .int .i64 L.t0, .int .i64 L.t1, .int .i64 L.t2, .int .i64 L.t3, .int .i64 L.t4, .int .i64 L.t5, .int .i64 L.t6], .slice A n cap]) (by simp [go_sem, h75, h77, hk.func]) hC (HGO.out W hC)
      refine ob_det (c := .bool true) ?_ ?_
      · intro ρ W hk hC
        simp only [seen, obOp, List.getD_cons_zero, List.getD_cons_succ]
        rintro h78 h74
        refine ⟨fun _ => ?_, fun hn => absurd h74 hn⟩
        exact rel_value (by simp [go_sem, h78]) hC
      refine ob_det (c := .bool true) ?_ ?_
      · intro ρ W hk hC
        simp only [seen, obOp, List.getD_cons_zero, List.getD_cons_succ]
        rintro h74 h79
        exact rel_value (by simp [go_sem, h74, h79, hk.const]) hC
      refine ob_det (c := .bool true) ?_ ?_
      · intro ρ W hk hC
        simp only [seen, obOp, List.getD_cons_zero]
        rintro h80
        exact rel_value (by simp [go_sem, h80]) hC
      refine ob_det (c := undef) ?_ ?_
      · intro ρ W hk hC
        simp only [seen, obOp, List.getD_cons_zero]
        rintro h4 h81
        replace h4 : ρ (.tmp 4) = .pointer (some ⟨w.heap.size + 1, 0, none⟩) := h4.trans rfl
        exact ⟨fun h => absurd (h.symm.trans h81) (by first | simp | simp [undef]), fun _ => by trivial⟩
      refine ob_det (c := undef) ?_ ?_
      · intro ρ W hk hC
        simp only [seen, obOp, List.getD_cons_zero, List.getD_cons_succ]
        rintro h82 h81
        exact ⟨fun h => absurd (h.symm.trans h81) (by first | simp | simp [undef]), fun _ => by trivial⟩
      refine ob_det (c := undef) ?_ ?_
      · intro ρ W hk hC
        simp only [seen, obOp, List.getD_cons_zero, List.getD_cons_succ]
        rintro h3 h81
        replace h3 : ρ (.tmp 3) = .pointer (some ⟨w.heap.size, 0, none⟩) := h3.trans rfl
        exact ⟨fun h => absurd (h.symm.trans h81) (by first | simp | simp [undef]), fun _ => by trivial⟩
      refine ob_det (c := undef) ?_ ?_
      · intro ρ W hk hC
        simp only [seen, obOp, List.getD_cons_zero, List.getD_cons_succ]
        rintro h84 h81
        exact ⟨fun h => absurd (h.symm.trans h81) (by first | simp | simp [undef]), fun _ => by trivial⟩
      refine ob_det (c := undef) ?_ ?_
      · intro ρ W hk hC
        simp only [seen, obOp, List.getD_cons_zero, List.getD_cons_succ]
        rintro h4 h81
        replace h4 : ρ (.tmp 4) = .pointer (some ⟨w.heap.size + 1, 0, none⟩) := h4.trans rfl
        exact ⟨fun h => absurd (h.symm.trans h81) (by first | simp | simp [undef]), fun _ => by trivial⟩
      refine ob_det (c := undef) ?_ ?_
      · intro ρ W hk hC
        simp only [seen, obOp, List.getD_cons_zero, List.getD_cons_succ]
        rintro h86 h81
        exact ⟨fun h => absurd (h.symm.trans h81) (by first | simp | simp [undef]), fun _ => by trivial⟩
      refine ob_det (c := undef) ?_ ?_
      · intro ρ W hk hC
        simp only [seen, obOp, List.getD_cons_zero, List.getD_cons_succ]
        rintro h85 h87 h81
        exact ⟨fun h => absurd (h.symm.trans h81) (by first | simp | simp [undef]), fun _ => by trivial⟩
      refine ob_det (c := undef) ?_ ?_
      · intro ρ W hk hC
        simp only [seen, obOp, List.getD_cons_zero, List.getD_cons_succ]
        rintro h88 h81
        exact ⟨fun h => absurd (h.symm.trans h81) (by first | simp | simp [undef]), fun _ => by trivial⟩
      refine ob_det (c := undef) ?_ ?_
      · intro ρ W hk hC
        simp only [seen, obOp, List.getD_cons_zero, List.getD_cons_succ]
        rintro h89 h81
        exact ⟨fun h => absurd (h.symm.trans h81) (by first | simp | simp [undef]), fun _ => by trivial⟩
      refine ob_det (c := undef) ?_ ?_
      · intro ρ W hk hC
        simp only [seen, obOp, List.getD_cons_zero, List.getD_cons_succ]
        rintro h83 h90 h81
        exact ⟨fun h => absurd (h.symm.trans h81) (by first | simp | simp [undef]), fun _ => by trivial⟩
      refine ob_det (c := undef) ?_ ?_
      · intro ρ W hk hC
        simp only [seen, obOp, List.getD_cons_zero, List.getD_cons_succ]
        rintro h91 h81
        exact ⟨fun h => absurd (h.symm.trans h81) (by first | simp | simp [undef]), fun _ => by trivial⟩
      refine ob_det (c := .bool true) ?_ ?_
      · intro ρ W hk hC
        simp only [seen, obOp, List.getD_cons_zero, List.getD_cons_succ]
        rintro h81 h92
        exact rel_value (by simp [go_sem, h81, h92, hk.const]) hC
      refine ob_det (c := .bool true) ?_ ?_
      · intro ρ W hk hC
        simp only [seen, obOp, List.getD_cons_zero]
        rintro h93
        exact rel_value (by simp [go_sem, h93]) hC
      refine ob_det (c := undef) ?_ ?_
      · intro ρ W hk hC
        simp only [seen, obOp, List.getD_cons_zero]
        rintro h4 h94
        replace h4 : ρ (.tmp 4) = .pointer (some ⟨w.heap.size + 1, 0, none⟩) := h4.trans rfl
        exact ⟨fun h => absurd (h.symm.trans h94) (by first | simp | simp [undef]), fun _ => by trivial⟩
      refine ob_det (c := undef) ?_ ?_
      · intro ρ W hk hC
        simp only [seen, obOp, List.getD_cons_zero, List.getD_cons_succ]
        rintro h2 h94
        replace h2 : ρ (.tmp 2) = .slice V vn vcap := h2.trans rfl
        exact ⟨fun h => absurd (h.symm.trans h94) (by first | simp | simp [undef]), fun _ => by trivial⟩
      refine ob_det (c := undef) ?_ ?_
      · intro ρ W hk hC
        simp only [seen, obOp, List.getD_cons_zero, List.getD_cons_succ]
        rintro h95 h96 h94
        exact ⟨fun h => absurd (h.symm.trans h94) (by first | simp | simp [undef]), fun _ => by trivial⟩
      refine ob_det (c := undef) ?_ ?_
      · intro ρ W hk hC
        simp only [seen, obOp, List.getD_cons_zero, List.getD_cons_succ]
        rintro h97 h94
        exact ⟨fun h => absurd (h.symm.trans h94) (by first | simp | simp [undef]), fun _ => by trivial⟩
      refine ob_det (c := .bool true) ?_ ?_
      · intro ρ W hk hC
        simp only [seen, obOp, List.getD_cons_zero, List.getD_cons_succ]
        rintro h94 h98
        exact rel_value (by simp [go_sem, h94, h98, hk.const]) hC
      intro vs9 w9 hC9
      simp only [endSeen, List.getD_cons_zero]
      intro h99
      simp only [writeAll, List.setIfInBounds_toArray, List.set_cons_zero, List.set_cons_succ, h99]
      go_wp2
      go_ret
      exact ⟨rfl, bchain HU.out.1 hC9⟩
  | true =>
  cases qs with
  | false =>
    obtain rfl : r = 110 := HRR.out.1 fun h => absurd (HEC.out.2.2.2.2.trans h.2.2.2.2.2.1) (by simp)
    clear q0
    focus
      refine wp_region_rel_below [([(8, none)], none), ([(68, some 0)], none), ([(69, some 0)], none), ([(8, none), (70, some 0)], some (70, false)), ([(71, some 0), (70, some 1)], some (70, false)), ([(70, some 2), (72, some 0)], none), ([(73, some 0)], none), ([(3, none), (74, some 0)], some (74, false)), ([(4, none), (74, some 1)], some (74, false)), ([(76, some 0), (74, some 2)], some (74, false)), ([(75, some 2), (77, some 0), (74, some 3)], some (74, false)), ([(78, some 0), (74, some 4)], some (74, false)), ([(74, some 5), (79, some 0)], none), ([(80, some 0)], none), ([(4, none), (81, some 0)], some (81, false)), ([(82, some 0), (81, some 1)], some (81, false)), ([(3, none), (81, some 2)], some (81, false)), ([(84, some 0), (81, some 3)], some (81, false)), ([(4, none), (81, some 4)], some (81, false)), ([(86, some 0), (81, some 5)], some (81, false)), ([(85, some 2), (87, some 0), (81, some 6)], some (81, false)), ([(88, some 0), (81, some 7)], some (81, false)), ([(89, some 0), (81, some 8)], some (81, false)), ([(83, some 7), (90, some 0), (81, some 9)], some (81, false)), ([(91, some 0), (81, some 10)], some (81, false)), ([(81, some 11), (92, some 0)], none), ([(93, some 0)], none), ([(4, none), (94, some 0)], some (94, false)), ([(2, none), (94, some 1)], some (94, false)), ([(95, some 1), (96, some 0), (94, some 2)], some (94, false)), ([(97, some 0), (94, some 3)], some (94, false)), ([(94, some 4), (98, some 0)], none)] [(0, 99)] (by kernel_rfl) (by kernel_rfl) ?_
      refine ob_det (c := .int .i64 n) ?_ ?_
      · intro ρ W hk hC
        simp only [seen, obOp]
        rintro h8
        replace h8 : ρ (.tmp 8) = .int .i64 n := h8.trans rfl
        exact rel_value (by simp [go_sem, h8]) hC
      refine ob_det (c := .bool false) ?_ ?_
      · intro ρ W hk hC
        simp only [seen, obOp, List.getD_cons_zero]
        rintro h68
        exact rel_value (by simp [go_sem, h68, hk.const, hc1]) hC
      refine ob_det (c := .bool false) ?_ ?_
      · intro ρ W hk hC
        simp only [seen, obOp, List.getD_cons_zero]
        rintro h69
        exact rel_value (by simp [go_sem, h69]) hC
      refine ob_det (c := .int .i64 n) ?_ ?_
      · intro ρ W hk hC
        simp only [seen, obOp, List.getD_cons_zero]
        rintro h8 h70
        replace h8 : ρ (.tmp 8) = .int .i64 n := h8.trans rfl
        refine ⟨fun _ => ?_, fun hn => absurd h70 hn⟩
        exact rel_value (by simp [go_sem, h8]) hC
      refine ob_det (c := .bool false) ?_ ?_
      · intro ρ W hk hC
        simp only [seen, obOp, List.getD_cons_zero, List.getD_cons_succ]
        rintro h71 h70
        refine ⟨fun _ => ?_, fun hn => absurd h70 hn⟩
        exact rel_value (by simp [go_sem, h71, hk.const, hc12]) hC
      refine ob_det (c := .bool false) ?_ ?_
      · intro ρ W hk hC
        simp only [seen, obOp, List.getD_cons_zero, List.getD_cons_succ]
        rintro h70 h72
        exact rel_value (by simp [go_sem, h70, h72, hk.const]) hC
      refine ob_det (c := .bool false) ?_ ?_
      · intro ρ W hk hC
        simp only [seen, obOp, List.getD_cons_zero]
        rintro h73
        exact rel_value (by simp [go_sem, h73]) hC
      refine ob_det (c := .agg #[.slice a0 L.secs.length p0, .slice a1 L.sigs.length p1, .slice (some ⟨eb, eo, none⟩) L.exits.length p2, .slice a3 L.flanks.length p3, .int .i64 L.t0, .int .i64 L.t1, .int .i64 L.t2, .int .i64 L.t3, .int .i64 L.t4, .int .i64 L.t5, .int .i64 L.t6]) ?_ ?_
      · intro ρ W hk hC
        simp only [seen, obOp, List.getD_cons_zero]
        rintro h3 h74
        replace h3 : ρ (.tmp 3) = .pointer (some ⟨w.heap.size, 0, none⟩) := h3.trans rfl
        refine ⟨fun _ => ?_, fun hn => absurd h74 hn⟩
        exact rel_value (runLoad h3 (HBX.out.below hC)) hC
      refine ob_det (c := .pointer (some ⟨w.heap.size + 1, 2, none⟩)) ?_ ?_
      · intro ρ W hk hC
        simp only [seen, obOp, List.getD_cons_zero, List.getD_cons_succ]
        rintro h4 h74
        replace h4 : ρ (.tmp 4) = .pointer (some ⟨w.heap.size + 1, 0, none⟩) := h4.trans rfl
        refine ⟨fun _ => ?_, fun hn => absurd h74 hn⟩
        exact rel_value (by simp [go_sem, h4]) hC
      refine ob_det (c := .slice A n cap) ?_ ?_
      · intro ρ W hk hC
        simp only [seen, obOp, List.getD_cons_zero, List.getD_cons_succ]
        rintro h76 h74
        refine ⟨fun _ => ?_, fun hn => absurd h74 hn⟩
        exact rel_value (by simp [go_sem, h76, q2 W hC]) hC
      refine ob_det (c := .bool true) ?_ ?_
      · intro ρ W hk hC
        simp only [seen, obOp, List.getD_cons_zero, List.getD_cons_succ]
        rintro h75 h77 h74
        refine ⟨fun _ => ?_, fun hn => absurd h74 hn⟩
        exact rel_call (f := 11) (args := #[.agg #[.slice a0 L.secs.length p0, .slice a1 L.sigs.length p1, .slice (some ⟨eb, eo, none⟩) L.exits.length p2, .slice a3 L.flanks.length p3, .int .i64 L.t0, .int .i64 L.t1, .int .i64 L.t2, .int .i64 L.t3, .int .i64 L.t4, .int .i64 L.t5, .int .i64 L.t6], .slice A n cap]) (by simp [go_sem, h75, h77, hk.func]) hC (HGO.out W hC)
      refine ob_det (c := .bool false) ?_ ?_
      · intro ρ W hk hC
        simp only [seen, obOp, List.getD_cons_zero, List.getD_cons_succ]
        rintro h78 h74
        refine ⟨fun _ => ?_, fun hn => absurd h74 hn⟩
        exact rel_value (by simp [go_sem, h78]) hC
      refine ob_det (c := .bool false) ?_ ?_
      · intro ρ W hk hC
        simp only [seen, obOp, List.getD_cons_zero, List.getD_cons_succ]
        rintro h74 h79
        exact rel_value (by simp [go_sem, h74, h79, hk.const]) hC
      refine ob_det (c := .bool false) ?_ ?_
      · intro ρ W hk hC
        simp only [seen, obOp, List.getD_cons_zero]
        rintro h80
        exact rel_value (by simp [go_sem, h80]) hC
      refine ob_det (c := .pointer (some ⟨w.heap.size + 1, 2, none⟩)) ?_ ?_
      · intro ρ W hk hC
        simp only [seen, obOp, List.getD_cons_zero]
        rintro h4 h81
        replace h4 : ρ (.tmp 4) = .pointer (some ⟨w.heap.size + 1, 0, none⟩) := h4.trans rfl
        refine ⟨fun _ => ?_, fun hn => absurd h81 hn⟩
        exact rel_value (by simp [go_sem, h4]) hC
      refine ob_det (c := .slice A n cap) ?_ ?_
      · intro ρ W hk hC
        simp only [seen, obOp, List.getD_cons_zero, List.getD_cons_succ]
        rintro h82 h81
        refine ⟨fun _ => ?_, fun hn => absurd h81 hn⟩
        exact rel_value (by simp [go_sem, h82, q2 W hC]) hC
      refine ob_det (c := .pointer (some ⟨w.heap.size, 2, none⟩)) ?_ ?_
      · intro ρ W hk hC
        simp only [seen, obOp, List.getD_cons_zero, List.getD_cons_succ]
        rintro h3 h81
        replace h3 : ρ (.tmp 3) = .pointer (some ⟨w.heap.size, 0, none⟩) := h3.trans rfl
        refine ⟨fun _ => ?_, fun hn => absurd h81 hn⟩
        exact rel_value (by simp [go_sem, h3]) hC
      refine ob_det (c := .slice (some ⟨eb, eo, none⟩) L.exits.length p2) ?_ ?_
      · intro ρ W hk hC
        simp only [seen, obOp, List.getD_cons_zero, List.getD_cons_succ]
        rintro h84 h81
        refine ⟨fun _ => ?_, fun hn => absurd h81 hn⟩
        exact rel_value (by simp [go_sem, h84, d2 W hC]) hC
      refine ob_det (c := .pointer (some ⟨w.heap.size + 1, 1, none⟩)) ?_ ?_
      · intro ρ W hk hC
        simp only [seen, obOp, List.getD_cons_zero, List.getD_cons_succ]
        rintro h4 h81
        replace h4 : ρ (.tmp 4) = .pointer (some ⟨w.heap.size + 1, 0, none⟩) := h4.trans rfl
        refine ⟨fun _ => ?_, fun hn => absurd h81 hn⟩
        exact rel_value (by simp [go_sem, h4]) hC
      refine ob_det (c := .int .i64 (m1 : Nat)) ?_ ?_
      · intro ρ W hk hC
        simp only [seen, obOp, List.getD_cons_zero, List.getD_cons_succ]
        rintro h86 h81
        refine ⟨fun _ => ?_, fun hn => absurd h81 hn⟩
        exact rel_value (by simp [go_sem, h86, q1 W hC]) hC
      refine ob_det (c := .pointer (some ⟨eb, eo + m1 * 3, none⟩)) ?_ ?_
      · intro ρ W hk hC
        simp only [seen, obOp, List.getD_cons_zero, List.getD_cons_succ]
        rintro h85 h87 h81
        refine ⟨fun _ => ?_, fun hn => absurd h81 hn⟩
        exact rel_value (by simp [go_sem, h85, h87, hm1]) hC
      refine ob_det (c := .pointer (some ⟨eb, eo + m1 * 3 + 2, none⟩)) ?_ ?_
      · intro ρ W hk hC
        simp only [seen, obOp, List.getD_cons_zero, List.getD_cons_succ]
        rintro h88 h81
        refine ⟨fun _ => ?_, fun hn => absurd h81 hn⟩
        exact rel_value (by simp [go_sem, h88]) hC
      refine ob_det (c := .slice oA ol oc) ?_ ?_
      · intro ρ W hk hC
        simp only [seen, obOp, List.getD_cons_zero, List.getD_cons_succ]
        rintro h89 h81
        refine ⟨fun _ => ?_, fun hn => absurd h81 hn⟩
        exact rel_value (by simp [go_sem, h89, j2 W hC]) hC
      refine ob_det (c := .bool false) ?_ ?_
      · intro ρ W hk hC
        simp only [seen, obOp, List.getD_cons_zero, List.getD_cons_succ]
        rintro h83 h90 h81
        refine ⟨fun _ => ?_, fun hn => absurd h81 hn⟩
        exact rel_call (f := 29) (args := #[.slice A n cap, .slice oA ol oc]) (by simp [go_sem, h83, h90, hk.func]) hC (HSM.out W hC)
      refine ob_det (c := .bool true) ?_ ?_
      · intro ρ W hk hC
        simp only [seen, obOp, List.getD_cons_zero, List.getD_cons_succ]
        rintro h91 h81
        refine ⟨fun _ => ?_, fun hn => absurd h81 hn⟩
        exact rel_value (by simp [go_sem, h91]) hC
      refine ob_det (c := .bool true) ?_ ?_
      · intro ρ W hk hC
        simp only [seen, obOp, List.getD_cons_zero, List.getD_cons_succ]
        rintro h81 h92
        exact rel_value (by simp [go_sem, h81, h92, hk.const]) hC
      refine ob_det (c := .bool true) ?_ ?_
      · intro ρ W hk hC
        simp only [seen, obOp, List.getD_cons_zero]
        rintro h93
        exact rel_value (by simp [go_sem, h93]) hC
      refine ob_det (c := undef) ?_ ?_
      · intro ρ W hk hC
        simp only [seen, obOp, List.getD_cons_zero]
        rintro h4 h94
        replace h4 : ρ (.tmp 4) = .pointer (some ⟨w.heap.size + 1, 0, none⟩) := h4.trans rfl
        exact ⟨fun h => absurd (h.symm.trans h94) (by first | simp | simp [undef]), fun _ => by trivial⟩
      refine ob_det (c := undef) ?_ ?_
      · intro ρ W hk hC
        simp only [seen, obOp, List.getD_cons_zero, List.getD_cons_succ]
        rintro h2 h94
        replace h2 : ρ (.tmp 2) = .slice V vn vcap := h2.trans rfl
        exact ⟨fun h => absurd (h.symm.trans h94) (by first | simp | simp [undef]), fun _ => by trivial⟩
      refine ob_det (c := undef) ?_ ?_
      · intro ρ W hk hC
        simp only [seen, obOp, List.getD_cons_zero, List.getD_cons_succ]
        rintro h95 h96 h94
        exact ⟨fun h => absurd (h.symm.trans h94) (by first | simp | simp [undef]), fun _ => by trivial⟩
      refine ob_det (c := undef) ?_ ?_
      · intro ρ W hk hC
        simp only [seen, obOp, List.getD_cons_zero, List.getD_cons_succ]
        rintro h97 h94
        exact ⟨fun h => absurd (h.symm.trans h94) (by first | simp | simp [undef]), fun _ => by trivial⟩
      refine ob_det (c := .bool true) ?_ ?_
      · intro ρ W hk hC
        simp only [seen, obOp, List.getD_cons_zero, List.getD_cons_succ]
        rintro h94 h98
        exact rel_value (by simp [go_sem, h94, h98, hk.const]) hC
      intro vs9 w9 hC9
      simp only [endSeen, List.getD_cons_zero]
      intro h99
      simp only [writeAll, List.setIfInBounds_toArray, List.set_cons_zero, List.set_cons_succ, h99]
      go_wp2
      go_ret
      exact ⟨rfl, bchain HU.out.1 hC9⟩
  | true =>
  cases qh with
  | false =>
    obtain rfl : r = 110 := HRR.out.1 fun h => absurd (HQ.out.2.2.1.trans h.2.2.2.2.1) (by simp)
    focus
      refine wp_region_rel_below [([(8, none)], none), ([(68, some 0)], none), ([(69, some 0)], none), ([(8, none), (70, some 0)], some (70, false)), ([(71, some 0), (70, some 1)], some (70, false)), ([(70, some 2), (72, some 0)], none), ([(73, some 0)], none), ([(3, none), (74, some 0)], some (74, false)), ([(4, none), (74, some 1)], some (74, false)), ([(76, some 0), (74, some 2)], some (74, false)), ([(75, some 2), (77, some 0), (74, some 3)], some (74, false)), ([(78, some 0), (74, some 4)], some (74, false)), ([(74, some 5), (79, some 0)], none), ([(80, some 0)], none), ([(4, none), (81, some 0)], some (81, false)), ([(82, some 0), (81, some 1)], some (81, false)), ([(3, none), (81, some 2)], some (81, false)), ([(84, some 0), (81, some 3)], some (81, false)), ([(4, none), (81, some 4)], some (81, false)), ([(86, some 0), (81, some 5)], some (81, false)), ([(85, some 2), (87, some 0), (81, some 6)], some (81, false)), ([(88, some 0), (81, some 7)], some (81, false)), ([(89, some 0), (81, some 8)], some (81, false)), ([(83, some 7), (90, some 0), (81, some 9)], some (81, false)), ([(91, some 0), (81, some 10)], some (81, false)), ([(81, some 11), (92, some 0)], none), ([(93, some 0)], none), ([(4, none), (94, some 0)], some (94, false)), ([(2, none), (94, some 1)], some (94, false)), ([(95, some 1), (96, some 0), (94, some 2)], some (94, false)), ([(97, some 0), (94, some 3)], some (94, false)), ([(94, some 4), (98, some 0)], none)] [(0, 99)] (by kernel_rfl) (by kernel_rfl) ?_
      refine ob_det (c := .int .i64 n) ?_ ?_
      · intro ρ W hk hC
        simp only [seen, obOp]
        rintro h8
        replace h8 : ρ (.tmp 8) = .int .i64 n := h8.trans rfl
        exact rel_value (by simp [go_sem, h8]) hC
      refine ob_det (c := .bool false) ?_ ?_
      · intro ρ W hk hC
        simp only [seen, obOp, List.getD_cons_zero]
        rintro h68
        exact rel_value (by simp [go_sem, h68, hk.const, hc1]) hC
      refine ob_det (c := .bool false) ?_ ?_
      · intro ρ W hk hC
        simp only [seen, obOp, List.getD_cons_zero]
        rintro h69
        exact rel_value (by simp [go_sem, h69]) hC
      refine ob_det (c := .int .i64 n) ?_ ?_
      · intro ρ W hk hC
        simp only [seen, obOp, List.getD_cons_zero]
        rintro h8 h70
        replace h8 : ρ (.tmp 8) = .int .i64 n := h8.trans rfl
        refine ⟨fun _ => ?_, fun hn => absurd h70 hn⟩
        exact rel_value (by simp [go_sem, h8]) hC
      refine ob_det (c := .bool false) ?_ ?_
      · intro ρ W hk hC
        simp only [seen, obOp, List.getD_cons_zero, List.getD_cons_succ]
        rintro h71 h70
        refine ⟨fun _ => ?_, fun hn => absurd h70 hn⟩
        exact rel_value (by simp [go_sem, h71, hk.const, hc12]) hC
      refine ob_det (c := .bool false) ?_ ?_
      · intro ρ W hk hC
        simp only [seen, obOp, List.getD_cons_zero, List.getD_cons_succ]
        rintro h70 h72
        exact rel_value (by simp [go_sem, h70, h72, hk.const]) hC
      refine ob_det (c := .bool false) ?_ ?_
      · intro ρ W hk hC
        simp only [seen, obOp, List.getD_cons_zero]
        rintro h73
        exact rel_value (by simp [go_sem, h73]) hC
      refine ob_det (c := .agg #[.slice a0 L.secs.length p0, .slice a1 L.sigs.length p1, .slice (some ⟨eb, eo, none⟩) L.exits.length p2, .slice a3 L.flanks.length p3, .int .i64 L.t0, .int .i64 L.t1, .int .i64 L.t2, .int .i64 L.t3, .int .i64 L.t4, .int .i64 L.t5, .int .i64 L.t6]) ?_ ?_
      · intro ρ W hk hC
        simp only [seen, obOp, List.getD_cons_zero]
        rintro h3 h74
        replace h3 : ρ (.tmp 3) = .pointer (some ⟨w.heap.size, 0, none⟩) := h3.trans rfl
        refine ⟨fun _ => ?_, fun hn => absurd h74 hn⟩
        exact rel_value (runLoad h3 (HBX.out.below hC)) hC
      refine ob_det (c := .pointer (some ⟨w.heap.size + 1, 2, none⟩)) ?_ ?_
      · intro ρ W hk hC
        simp only [seen, obOp, List.getD_cons_zero, List.getD_cons_succ]
        rintro h4 h74
        replace h4 : ρ (.tmp 4) = .pointer (some ⟨w.heap.size + 1, 0, none⟩) := h4.trans rfl
        refine ⟨fun _ => ?_, fun hn => absurd h74 hn⟩
        exact rel_value (by simp [go_sem, h4]) hC
      refine ob_det (c := .slice A n cap) ?_ ?_
      · intro ρ W hk hC
        simp only [seen, obOp, List.getD_cons_zero, List.getD_cons_succ]
        rintro h76 h74
        refine ⟨fun _ => ?_, fun hn => absurd h74 hn⟩
        exact rel_value (by simp [go_sem, h76, q2 W hC]) hC
      refine ob_det (c := .bool true) ?_ ?_
      · intro ρ W hk hC
        simp only [seen, obOp, List.getD_cons_zero, List.getD_cons_succ]
        rintro h75 h77 h74
        refine ⟨fun _ => ?_, fun hn => absurd h74 hn⟩
        exact rel_call (f := 11) (args := #[.agg #[.slice a0 L.secs.length p0, .slice a1 L.sigs.length p1, .slice (some ⟨eb, eo, none⟩) L.exits.length p2, .slice a3 L.flanks.length p3, .int .i64 L.t0, .int .i64 L.t1, .int .i64 L.t2, .int .i64 L.t3, .int .i64 L.t4, .int .i64 L.t5, .int .i64 L.t6], .slice A n cap]) (by simp [go_sem, h75, h77, hk.func]) hC (HGO.out W hC)
      refine ob_det (c := .bool false) ?_ ?_
      · intro ρ W hk hC
        simp only [seen, obOp, List.getD_cons_zero, List.getD_cons_succ]
        rintro h78 h74
        refine ⟨fun _ => ?_, fun hn => absurd h74 hn⟩
        exact rel_value (by simp [go_sem, h78]) hC
      refine ob_det (c := .bool false) ?_ ?_
      · intro ρ W hk hC
        simp only [seen, obOp, List.getD_cons_zero, List.getD_cons_succ]
        rintro h74 h79
        exact rel_value (by simp [go_sem, h74, h79, hk.const]) hC
      refine ob_det (c := .bool false) ?_ ?_
      · intro ρ W hk hC
        simp only [seen, obOp, List.getD_cons_zero]
        rintro h80
        exact rel_value (by simp [go_sem, h80]) hC
      refine ob_det (c := .pointer (some ⟨w.heap.size + 1, 2, none⟩)) ?_ ?_
      · intro ρ W hk hC
        simp only [seen, obOp, List.getD_cons_zero]
        rintro h4 h81
        replace h4 : ρ (.tmp 4) = .pointer (some ⟨w.heap.size + 1, 0, none⟩) := h4.trans rfl
        refine ⟨fun _ => ?_, fun hn => absurd h81 hn⟩
        exact rel_value (by simp [go_sem, h4]) hC
      refine ob_det (c := .slice A n cap) ?_ ?_
      · intro ρ W hk hC
        simp only [seen, obOp, List.getD_cons_zero, List.getD_cons_succ]
        rintro h82 h81
        refine ⟨fun _ => ?_, fun hn => absurd h81 hn⟩
        exact rel_value (by simp [go_sem, h82, q2 W hC]) hC
      refine ob_det (c := .pointer (some ⟨w.heap.size, 2, none⟩)) ?_ ?_
      · intro ρ W hk hC
        simp only [seen, obOp, List.getD_cons_zero, List.getD_cons_succ]
        rintro h3 h81
        replace h3 : ρ (.tmp 3) = .pointer (some ⟨w.heap.size, 0, none⟩) := h3.trans rfl
        refine ⟨fun _ => ?_, fun hn => absurd h81 hn⟩
        exact rel_value (by simp [go_sem, h3]) hC
      refine ob_det (c := .slice (some ⟨eb, eo, none⟩) L.exits.length p2) ?_ ?_
      · intro ρ W hk hC
        simp only [seen, obOp, List.getD_cons_zero, List.getD_cons_succ]
        rintro h84 h81
        refine ⟨fun _ => ?_, fun hn => absurd h81 hn⟩
        exact rel_value (by simp [go_sem, h84, d2 W hC]) hC
      refine ob_det (c := .pointer (some ⟨w.heap.size + 1, 1, none⟩)) ?_ ?_
      · intro ρ W hk hC
        simp only [seen, obOp, List.getD_cons_zero, List.getD_cons_succ]
        rintro h4 h81
        replace h4 : ρ (.tmp 4) = .pointer (some ⟨w.heap.size + 1, 0, none⟩) := h4.trans rfl
        refine ⟨fun _ => ?_, fun hn => absurd h81 hn⟩
        exact rel_value (by simp [go_sem, h4]) hC
      refine ob_det (c := .int .i64 (m1 : Nat)) ?_ ?_
      · intro ρ W hk hC
        simp only [seen, obOp, List.getD_cons_zero, List.getD_cons_succ]
        rintro h86 h81
        refine ⟨fun _ => ?_, fun hn => absurd h81 hn⟩
        exact rel_value (by simp [go_sem, h86, q1 W hC]) hC
      refine ob_det (c := .pointer (some ⟨eb, eo + m1 * 3, none⟩)) ?_ ?_
      · intro ρ W hk hC
        simp only [seen, obOp, List.getD_cons_zero, List.getD_cons_succ]
        rintro h85 h87 h81
        refine ⟨fun _ => ?_, fun hn => absurd h81 hn⟩
        exact rel_value (by simp [go_sem, h85, h87, hm1]) hC
      refine ob_det (c := .pointer (some ⟨eb, eo + m1 * 3 + 2, none⟩)) ?_ ?_
      · intro ρ W hk hC
        simp only [seen, obOp, List.getD_cons_zero, List.getD_cons_succ]
        rintro h88 h81
        refine ⟨fun _ => ?_, fun hn => absurd h81 hn⟩
        exact rel_value (by simp [go_sem, h88]) hC
      refine ob_det (c := .slice oA ol oc) ?_ ?_
      · intro ρ W hk hC
        simp only [seen, obOp, List.getD_cons_zero, List.getD_cons_succ]
        rintro h89 h81
        refine ⟨fun _ => ?_, fun hn => absurd h81 hn⟩
        exact rel_value (by simp [go_sem, h89, j2 W hC]) hC
      refine ob_det (c := .bool true) ?_ ?_
      · intro ρ W hk hC
        simp only [seen, obOp, List.getD_cons_zero, List.getD_cons_succ]
        rintro h83 h90 h81
        refine ⟨fun _ => ?_, fun hn => absurd h81 hn⟩
        exact rel_call (f := 29) (args := #[.slice A n cap, .slice oA ol oc]) (by simp [go_sem, h83, h90, hk.func]) hC (HSM.out W hC)
      refine ob_det (c := .bool false) ?_ ?_
      · intro ρ W hk hC
        simp only [seen, obOp, List.getD_cons_zero, List.getD_cons_succ]
        rintro h91 h81
        refine ⟨fun _ => ?_, fun hn => absurd h81 hn⟩
        exact rel_value (by simp [go_sem, h91]) hC
      refine ob_det (c := .bool false) ?_ ?_
      · intro ρ W hk hC
        simp only [seen, obOp, List.getD_cons_zero, List.getD_cons_succ]
        rintro h81 h92
        exact rel_value (by simp [go_sem, h81, h92, hk.const]) hC
      refine ob_det (c := .bool false) ?_ ?_
      · intro ρ W hk hC
        simp only [seen, obOp, List.getD_cons_zero]
        rintro h93
        exact rel_value (by simp [go_sem, h93]) hC
      refine ob_det (c := .agg #[.int .i64 (n1 : Nat), .int .i64 (m1 : Nat), .slice A n cap]) ?_ ?_
      · intro ρ W hk hC
        simp only [seen, obOp, List.getD_cons_zero]
        rintro h4 h94
        replace h4 : ρ (.tmp 4) = .pointer (some ⟨w.heap.size + 1, 0, none⟩) := h4.trans rfl
        refine ⟨fun _ => ?_, fun hn => absurd h94 hn⟩
        exact rel_value (by simp [go_sem, h4, q0 W hC, q1 W hC, q2 W hC]) hC
      refine ob_det (c := .slice V vn vcap) ?_ ?_
      · intro ρ W hk hC
        simp only [seen, obOp, List.getD_cons_zero, List.getD_cons_succ]
        rintro h2 h94
        replace h2 : ρ (.tmp 2) = .slice V vn vcap := h2.trans rfl
        refine ⟨fun _ => ?_, fun hn => absurd h94 hn⟩
        exact rel_value (by simp [go_sem, h2]) hC
      refine ob_det (c := .bool false) ?_ ?_
      · intro ρ W hk hC
        simp only [seen, obOp, List.getD_cons_zero, List.getD_cons_succ]
        rintro h95 h96 h94
        refine ⟨fun _ => ?_, fun hn => absurd h94 hn⟩
        exact rel_call (f := 13) (args := #[.agg #[.int .i64 (n1 : Nat), .int .i64 (m1 : Nat), .slice A n cap], .slice V vn vcap]) (by simp [go_sem, h95, h96, hk.func]) hC (HTH.out W hC)
      refine ob_det (c := .bool true) ?_ ?_
      · intro ρ W hk hC
        simp only [seen, obOp, List.getD_cons_zero, List.getD_cons_succ]
        rintro h97 h94
        refine ⟨fun _ => ?_, fun hn => absurd h94 hn⟩
        exact rel_value (by simp [go_sem, h97]) hC
      refine ob_det (c := .bool true) ?_ ?_
      · intro ρ W hk hC
        simp only [seen, obOp, List.getD_cons_zero, List.getD_cons_succ]
        rintro h94 h98
        exact rel_value (by simp [go_sem, h94, h98, hk.const]) hC
      intro vs9 w9 hC9
      simp only [endSeen, List.getD_cons_zero]
      intro h99
      simp only [writeAll, List.setIfInBounds_toArray, List.set_cons_zero, List.set_cons_succ, h99]
      go_wp2
      go_ret
      exact ⟨rfl, bchain HU.out.1 hC9⟩
  | true =>
  focus
    refine wp_region_rel_below [([(8, none)], none), ([(68, some 0)], none), ([(69, some 0)], none), ([(8, none), (70, some 0)], some (70, false)), ([(71, some 0), (70, some 1)], some (70, false)), ([(70, some 2), (72, some 0)], none), ([(73, some 0)], none), ([(3, none), (74, some 0)], some (74, false)), ([(4, none), (74, some 1)], some (74, false)), ([(76, some 0), (74, some 2)], some (74, false)), ([(75, some 2), (77, some 0), (74, some 3)], some (74, false)), ([(78, some 0), (74, some 4)], some (74, false)), ([(74, some 5), (79, some 0)], none), ([(80, some 0)], none), ([(4, none), (81, some 0)], some (81, false)), ([(82, some 0), (81, some 1)], some (81, false)), ([(3, none), (81, some 2)], some (81, false)), ([(84, some 0), (81, some 3)], some (81, false)), ([(4, none), (81, some 4)], some (81, false)), ([(86, some 0), (81, some 5)], some (81, false)), ([(85, some 2), (87, some 0), (81, some 6)], some (81, false)), ([(88, some 0), (81, some 7)], some (81, false)), ([(89, some 0), (81, some 8)], some (81, false)), ([(83, some 7), (90, some 0), (81, some 9)], some (81, false)), ([(91, some 0), (81, some 10)], some (81, false)), ([(81, some 11), (92, some 0)], none), ([(93, some 0)], none), ([(4, none), (94, some 0)], some (94, false)), ([(2, none), (94, some 1)], some (94, false)), ([(95, some 1), (96, some 0), (94, some 2)], some (94, false)), ([(97, some 0), (94, some 3)], some (94, false)), ([(94, some 4), (98, some 0)], none)] [(0, 99)] (by kernel_rfl) (by kernel_rfl) ?_
    refine ob_det (c := .int .i64 n) ?_ ?_
    · intro ρ W hk hC
      simp only [seen, obOp]
      rintro h8
      replace h8 : ρ (.tmp 8) = .int .i64 n := h8.trans rfl
      exact rel_value (by simp [go_sem, h8]) hC
    refine ob_det (c := .bool false) ?_ ?_
    · intro ρ W hk hC
      simp only [seen, obOp, List.getD_cons_zero]
      rintro h68
      exact rel_value (by simp [go_sem, h68, hk.const, hc1]) hC
    refine ob_det (c := .bool false) ?_ ?_
    · intro ρ W hk hC
      simp only [seen, obOp, List.getD_cons_zero]
      rintro h69
      exact rel_value (by simp [go_sem, h69]) hC
    refine ob_det (c := .int .i64 n) ?_ ?_
    · intro ρ W hk hC
      simp only [seen, obOp, List.getD_cons_zero]
      rintro h8 h70
      replace h8 : ρ (.tmp 8) = .int .i64 n := h8.trans rfl
      refine ⟨fun _ => ?_, fun hn => absurd h70 hn⟩
      exact rel_value (by simp [go_sem, h8]) hC
    refine ob_det (c := .bool false) ?_ ?_
    · intro ρ W hk hC
      simp only [seen, obOp, List.getD_cons_zero, List.getD_cons_succ]
      rintro h71 h70
      refine ⟨fun _ => ?_, fun hn => absurd h70 hn⟩
      exact rel_value (by simp [go_sem, h71, hk.const, hc12]) hC
    refine ob_det (c := .bool false) ?_ ?_
    · intro ρ W hk hC
      simp only [seen, obOp, List.getD_cons_zero, List.getD_cons_succ]
      rintro h70 h72
      exact rel_value (by simp [go_sem, h70, h72, hk.const]) hC
    refine ob_det (c := .bool false) ?_ ?_
    · intro ρ W hk hC
      simp only [seen, obOp, List.getD_cons_zero]
      rintro h73
      exact rel_value (by simp [go_sem, h73]) hC
    refine ob_det (c := .agg #[.slice a0 L.secs.length p0, .slice a1 L.sigs.length p1, .slice (some ⟨eb, eo, none⟩) L.exits.length p2, .slice a3 L.flanks.length p3, .int .i64 L.t0, .int .i64 L.t1, .int .i64 L.t2, .int .i64 L.t3, .int .i64 L.t4, .int .i64 L.t5, .int .i64 L.t6]) ?_ ?_
    · intro ρ W hk hC
      simp only [seen, obOp, List.getD_cons_zero]
      rintro h3 h74
      replace h3 : ρ (.tmp 3) = .pointer (some ⟨w.heap.size, 0, none⟩) := h3.trans rfl
      refine ⟨fun _ => ?_, fun hn => absurd h74 hn⟩
      exact rel_value (runLoad h3 (HBX.out.below hC)) hC
    refine ob_det (c := .pointer (some ⟨w.heap.size + 1, 2, none⟩)) ?_ ?_
    · intro ρ W hk hC
      simp only [seen, obOp, List.getD_cons_zero, List.getD_cons_succ]
      rintro h4 h74
      replace h4 : ρ (.tmp 4) = .pointer (some ⟨w.heap.size + 1, 0, none⟩) := h4.trans rfl
      refine ⟨fun _ => ?_, fun hn => absurd h74 hn⟩
      exact rel_value (by simp [go_sem, h4]) hC
    refine ob_det (c := .slice A n cap) ?_ ?_
    · intro ρ W hk hC
      simp only [seen, obOp, List.getD_cons_zero, List.getD_cons_succ]
      rintro h76 h74
      refine ⟨fun _ => ?_, fun hn => absurd h74 hn⟩
      exact rel_value (by simp [go_sem, h76, q2 W hC]) hC
    refine ob_det (c := .bool true) ?_ ?_
    · intro ρ W hk hC
      simp only [seen, obOp, List.getD_cons_zero, List.getD_cons_succ]
      rintro h75 h77 h74
      refine ⟨fun _ => ?_, fun hn => absurd h74 hn⟩
      exact rel_call (f := 11) (args := #[.agg #[.slice a0 L.secs.length p0, .slice a1 L.sigs.length p1, .slice (some ⟨eb, eo, none⟩) L.exits.length p2, .slice a3 L.flanks.length p3, .int .i64 L.t0, .int .i64 L.t1, .int .i64 L.t2, .int .i64 L.t3, .int .i64 L.t4, .int .i64 L.t5, .int .i64 L.t6], .slice A n cap]) (by simp [go_sem, h75, h77, hk.func]) hC (HGO.out W hC)
    refine ob_det (c := .bool false) ?_ ?_
    · intro ρ W hk hC
      simp only [seen, obOp, List.getD_cons_zero, List.getD_cons_succ]
      rintro h78 h74
      refine ⟨fun _ => ?_, fun hn => absurd h74 hn⟩
      exact rel_value (by simp [go_sem, h78]) hC
    refine ob_det (c := .bool false) ?_ ?_
    · intro ρ W hk hC
      simp only [seen, obOp, List.getD_cons_zero, List.getD_cons_succ]
      rintro h74 h79
      exact rel_value (by simp [go_sem, h74, h79, hk.const]) hC
    refine ob_det (c := .bool false) ?_ ?_
    · intro ρ W hk hC
      simp only [seen, obOp, List.getD_cons_zero]
      rintro h80
      exact rel_value (by simp [go_sem, h80]) hC
    refine ob_det (c := .pointer (some ⟨w.heap.size + 1, 2, none⟩)) ?_ ?_
    · intro ρ W hk hC
      simp only [seen, obOp, List.getD_cons_zero]
      rintro h4 h81
      replace h4 : ρ (.tmp 4) = .pointer (some ⟨w.heap.size + 1, 0, none⟩) := h4.trans rfl
      refine ⟨fun _ => ?_, fun hn => absurd h81 hn⟩
      exact rel_value (by simp [go_sem, h4]) hC
    refine ob_det (c := .slice A n cap) ?_ ?_
    · intro ρ W hk hC
      simp only [seen, obOp, List.getD_cons_zero, List.getD_cons_succ]
      rintro h82 h81
      refine ⟨fun _ => ?_, fun hn => absurd h81 hn⟩
      exact rel_value (by simp [go_sem, h82, q2 W hC]) hC
    refine ob_det (c := .pointer (some ⟨w.heap.size, 2, none⟩)) ?_ ?_
    · intro ρ W hk hC
      simp only [seen, obOp, List.getD_cons_zero, List.getD_cons_succ]
      rintro h3 h81
      replace h3 : ρ (.tmp 3) = .pointer (some ⟨w.heap.size, 0, none⟩) := h3.trans rfl
      refine ⟨fun _ => ?_, fun hn => absurd h81 hn⟩
      exact rel_value (by simp [go_sem, h3]) hC
    refine ob_det (c := .slice (some ⟨eb, eo, none⟩) L.exits.length p2) ?_ ?_
    · intro ρ W hk hC
      simp only [seen, obOp, List.getD_cons_zero, List.getD_cons_succ]
      rintro h84 h81
      refine ⟨fun _ => ?_, fun hn => absurd h81 hn⟩
      exact rel_value (by simp [go_sem, h84, d2 W hC]) hC
    refine ob_det (c := .pointer (some ⟨w.heap.size + 1, 1, none⟩)) ?_ ?_
    · intro ρ W hk hC
      simp only [seen, obOp, List.getD_cons_zero, List.getD_cons_succ]
      rintro h4 h81
      replace h4 : ρ (.tmp 4) = .pointer (some ⟨w.heap.size + 1, 0, none⟩) := h4.trans rfl
      refine ⟨fun _ => ?_, fun hn => absurd h81 hn⟩
      exact rel_value (by simp [go_sem, h4]) hC
    refine ob_det (c := .int .i64 (m1 : Nat)) ?_ ?_
    · intro ρ W hk hC
      simp only [seen, obOp, List.getD_cons_zero, List.getD_cons_succ]
      rintro h86 h81
      refine ⟨fun _ => ?_, fun hn => absurd h81 hn⟩
      exact rel_value (by simp [go_sem, h86, q1 W hC]) hC
    refine ob_det (c := .pointer (some ⟨eb, eo + m1 * 3, none⟩)) ?_ ?_
    · intro ρ W hk hC
      simp only [seen, obOp, List.getD_cons_zero, List.getD_cons_succ]
      rintro h85 h87 h81
      refine ⟨fun _ => ?_, fun hn => absurd h81 hn⟩
      exact rel_value (by simp [go_sem, h85, h87, hm1]) hC
    refine ob_det (c := .pointer (some ⟨eb, eo + m1 * 3 + 2, none⟩)) ?_ ?_
    · intro ρ W hk hC
      simp only [seen, obOp, List.getD_cons_zero, List.getD_cons_succ]
      rintro h88 h81
      refine ⟨fun _ => ?_, fun hn => absurd h81 hn⟩
      exact rel_value (by simp [go_sem, h88]) hC
    refine ob_det (c := .slice oA ol oc) ?_ ?_
    · intro ρ W hk hC
      simp only [seen, obOp, List.getD_cons_zero, List.getD_cons_succ]
      rintro h89 h81
      refine ⟨fun _ => ?_, fun hn => absurd h81 hn⟩
      exact rel_value (by simp [go_sem, h89, j2 W hC]) hC
    refine ob_det (c := .bool true) ?_ ?_
    · intro ρ W hk hC
      simp only [seen, obOp, List.getD_cons_zero, List.getD_cons_succ]
      rintro h83 h90 h81
      refine ⟨fun _ => ?_, fun hn => absurd h81 hn⟩
      exact rel_call (f := 29) (args := #[.slice A n cap, .slice oA ol oc]) (by simp [go_sem, h83, h90, hk.func]) hC (HSM.out W hC)
    refine ob_det (c := .bool false) ?_ ?_
    · intro ρ W hk hC
      simp only [seen, obOp, List.getD_cons_zero, List.getD_cons_succ]
      rintro h91 h81
      refine ⟨fun _ => ?_, fun hn => absurd h81 hn⟩
      exact rel_value (by simp [go_sem, h91]) hC
    refine ob_det (c := .bool false) ?_ ?_
    · intro ρ W hk hC
      simp only [seen, obOp, List.getD_cons_zero, List.getD_cons_succ]
      rintro h81 h92
      exact rel_value (by simp [go_sem, h81, h92, hk.const]) hC
    refine ob_det (c := .bool false) ?_ ?_
    · intro ρ W hk hC
      simp only [seen, obOp, List.getD_cons_zero]
      rintro h93
      exact rel_value (by simp [go_sem, h93]) hC
    refine ob_det (c := .agg #[.int .i64 (n1 : Nat), .int .i64 (m1 : Nat), .slice A n cap]) ?_ ?_
    · intro ρ W hk hC
      simp only [seen, obOp, List.getD_cons_zero]
      rintro h4 h94
      replace h4 : ρ (.tmp 4) = .pointer (some ⟨w.heap.size + 1, 0, none⟩) := h4.trans rfl
      refine ⟨fun _ => ?_, fun hn => absurd h94 hn⟩
      exact rel_value (by simp [go_sem, h4, q0 W hC, q1 W hC, q2 W hC]) hC
    refine ob_det (c := .slice V vn vcap) ?_ ?_
    · intro ρ W hk hC
      simp only [seen, obOp, List.getD_cons_zero, List.getD_cons_succ]
      rintro h2 h94
      replace h2 : ρ (.tmp 2) = .slice V vn vcap := h2.trans rfl
      refine ⟨fun _ => ?_, fun hn => absurd h94 hn⟩
      exact rel_value (by simp [go_sem, h2]) hC
    refine ob_det (c := .bool true) ?_ ?_
    · intro ρ W hk hC
      simp only [seen, obOp, List.getD_cons_zero, List.getD_cons_succ]
      rintro h95 h96 h94
      refine ⟨fun _ => ?_, fun hn => absurd h94 hn⟩
      exact rel_call (f := 13) (args := #[.agg #[.int .i64 (n1 : Nat), .int .i64 (m1 : Nat), .slice A n cap], .slice V vn vcap]) (by simp [go_sem, h95, h96, hk.func]) hC (HTH.out W hC)
    refine ob_det (c := .bool false) ?_ ?_
    · intro ρ W hk hC
      simp only [seen, obOp, List.getD_cons_zero, List.getD_cons_succ]
      rintro h97 h94
      refine ⟨fun _ => ?_, fun hn => absurd h94 hn⟩
      exact rel_value (by simp [go_sem, h97]) hC
    refine ob_det (c := .bool false) ?_ ?_
    · intro ρ W hk hC
      simp only [seen, obOp, List.getD_cons_zero, List.getD_cons_succ]
      rintro h94 h98
      exact rel_value (by simp [go_sem, h94, h98, hk.const]) hC
    intro vs9 w9 hC9
    simp only [endSeen, List.getD_cons_zero]
    intro h99
    simp only [writeAll, List.setIfInBounds_toArray, List.set_cons_zero, List.set_cons_succ, h99]
    have HC9 := Lib.hid hC9
    have HX9 := Lib.hid (show ClB X w9 from HU.out.2.step hC9)
    have HW9 := Lib.hid (bchain HU.out.1 hC9)
    clear hC9 q0 q1 q2 d2 j2 hc1 hc12
    obtain ⟨lm, hlm⟩ : ∃ lm, n = lm + 1 := ⟨n - 1, by omega⟩
    have hsub : (n : Int) - 1 = (lm : Int) := by omega
    have hwm : IntKind.wrap .i64 (lm : Int) = (lm : Int) := by rw [IntKind.wrap_i64]; omega
    have hml : lm < n := by omega
    have hpos : 0 < n := by omega
    have HLM := Lib.hid hlm
    clear hlm
    obtain ⟨b, off, hAe, hrow⟩ := HA.out.1.get (j := 0) (by rw [← HQ.out.2.2.2.1]; omega)
    subst hAe
    obtain ⟨x, hx0⟩ : ∃ x, xs[0]? = some x := ⟨_, List.getElem?_eq_getElem (by rw [← HQ.out.2.2.2.1]; omega)⟩
    obtain ⟨y, hy0⟩ : ∃ y, xs[lm]? = some y := ⟨_, List.getElem?_eq_getElem (by rw [← HQ.out.2.2.2.1]; omega)⟩
    have HXY := Lib.hid (⟨hx0, hy0, hrow⟩ : _ ∧ _ ∧ _)
    obtain ⟨xa, xb, xc⟩ := x
    obtain ⟨ya, yb, yc⟩ := y
    have hW9 := HW9.out
    have x0 : ∀ V', ClB w9 V' → V'.cell? ⟨b, off, none⟩ = some (.int .i64 xa) := fun V' h => ((bchain hW9 h).cell (p := ⟨b, off, none⟩) hrow.1).trans (by simpa using hrow.2 0 _ hx0 0 _ rfl)
    have x1 : ∀ V', ClB w9 V' → V'.cell? ⟨b, off + 1, none⟩ = some (.int .i64 xb) := fun V' h => ((bchain hW9 h).cell (p := ⟨b, off + 1, none⟩) hrow.1).trans (by simpa using hrow.2 0 _ hx0 1 _ rfl)
    have y0 : ∀ V', ClB w9 V' → V'.cell? ⟨b, off + lm * 3, none⟩ = some (.int .i64 ya) := fun V' h => ((bchain hW9 h).cell (p := ⟨b, off + lm * 3, none⟩) hrow.1).trans (hrow.2 lm _ hy0 0 _ rfl)
    have y2 : ∀ V', ClB w9 V' → V'.cell? ⟨b, off + lm * 3 + 2, none⟩ = some (.int .i64 yc) := fun V' h => ((bchain hW9 h).cell (p := ⟨b, off + lm * 3 + 2, none⟩) hrow.1).trans (hrow.2 lm _ hy0 2 _ rfl)
    obtain ⟨sb, so, hSe, hsrow⟩ := HA.out.2.2.sigs.get (j := n1) hn1
    dsimp only at hSe
    subst hSe
    obtain ⟨ss, sq⟩ := sp
    have s0 : ∀ V', ClB w9 V' → V'.cell? ⟨sb, so + n1 * 2, none⟩ = some (.int .i64 ss) := fun V' h => ((bchain hW9 h).cell (p := ⟨sb, so + n1 * 2, none⟩) hsrow.1).trans (hsrow.2 n1 _ hsp 0 _ rfl)
    have s1 : ∀ V', ClB w9 V' → V'.cell? ⟨sb, so + n1 * 2 + 1, none⟩ = some (.int .i64 sq) := fun V' h => ((bchain hW9 h).cell (p := ⟨sb, so + n1 * 2 + 1, none⟩) hsrow.1).trans (hsrow.2 n1 _ hsp 1 _ rfl)
    have j0 : ∀ V', ClB w9 V' → V'.cell? ⟨eb, eo + m1 * 3, none⟩ = some (.int .i64 es) := fun V' h => ((bchain hW9 h).cell (p := ⟨eb, eo + m1 * 3, none⟩) HEC.out.2.2.2.1).trans HEC.out.1
    have j1 : ∀ V', ClB w9 V' → V'.cell? ⟨eb, eo + m1 * 3 + 1, none⟩ = some (.int .i64 ep) := fun V' h => ((bchain hW9 h).cell (p := ⟨eb, eo + m1 * 3 + 1, none⟩) HEC.out.2.2.2.1).trans HEC.out.2.1
    have q0 : ∀ V', ClB w9 V' → V'.cell? ⟨w.heap.size + 1, 0, none⟩ = some (.int .i64 (n1 : Nat)) := fun V' h => (HX.out.2 V' (bchain HX9.out h)).2.1.1
    have q1 : ∀ V', ClB w9 V' → V'.cell? ⟨w.heap.size + 1, 1, none⟩ = some (.int .i64 (m1 : Nat)) := fun V' h => (HX.out.2 V' (bchain HX9.out h)).2.1.2.1
    have q2 : ∀ V', ClB w9 V' → V'.cell? ⟨w.heap.size + 1, 2, none⟩ = some (.slice (some ⟨b, off, none⟩) n cap) := fun V' h => (HX.out.2 V' (bchain HX9.out h)).2.1.2.2
    have d1 : ∀ V', ClB w9 V' → V'.cell? ⟨w.heap.size, 1, none⟩ = some (.slice (some ⟨sb, so, none⟩) L.sigs.length p1) := fun V' h => (HX.out.2 V' (bchain HX9.out h)).1.cells.2.1
    have d2 : ∀ V', ClB w9 V' → V'.cell? ⟨w.heap.size, 2, none⟩ = some (.slice (some ⟨eb, eo, none⟩) L.exits.length p2) := fun V' h => (HX.out.2 V' (bchain HX9.out h)).1.cells.2.2.1
    clear hrow hx0 hy0 hsrow hW9
    go_upto_region 11 with fail
    have f1 := fun V' => eqQ_portI ss sq xa xb V'
    by_cases hS : ss = xa ∧ sq = xb
    case neg =>
      obtain rfl : r = 110 := HRR.out.1 fun h => by
        have := h.2.1 _ HXY.out.1
        cases this
        exact hS ⟨rfl, rfl⟩
      rw [decide_eq_false hS] at f1
      clear y0 y2 j0 j1 q1 d2 hS
      focus
        refine wp_region_rel_below [([(3, none)], none), ([(100, some 0)], none), ([(4, none)], none), ([(102, some 0)], none), ([(101, some 2), (103, some 0)], none), ([(104, some 0)], none), ([(105, some 0)], none), ([(4, none)], none), ([(107, some 0)], none), ([(108, some 0)], none), ([(109, some 0)], none), ([(110, some 0)], none), ([(4, none)], none), ([(112, some 0)], none), ([(113, some 0)], none), ([(114, some 0)], none), ([(115, some 0)], none), ([(111, some 5), (116, some 0)], none), ([(106, some 11), (117, some 0)], none), ([(118, some 0)], none), ([(3, none), (119, some 0)], some (119, false)), ([(120, some 0), (119, some 1)], some (119, false)), ([(4, none), (119, some 2)], some (119, false)), ([(122, some 0), (119, some 3)], some (119, false)), ([(121, some 2), (123, some 0), (119, some 4)], some (119, false)), ([(124, some 0), (119, some 5)], some (119, false)), ([(125, some 0), (119, some 6)], some (119, false)), ([(4, none), (119, some 7)], some (119, false)), ([(127, some 0), (119, some 8)], some (119, false)), ([(8, none), (119, some 9)], some (119, false)), ([(129, some 0), (119, some 10)], some (119, false)), ([(128, some 2), (130, some 0), (119, some 11)], some (119, false)), ([(131, some 0), (119, some 12)], some (119, false)), ([(132, some 0), (119, some 13)], some (119, false)), ([(4, none), (119, some 14)], some (119, false)), ([(134, some 0), (119, some 15)], some (119, false)), ([(8, none), (119, some 16)], some (119, false)), ([(136, some 0), (119, some 17)], some (119, false)), ([(135, some 2), (137, some 0), (119, some 18)], some (119, false)), ([(138, some 0), (119, some 19)], some (119, false)), ([(139, some 0), (119, some 20)], some (119, false)), ([(133, some 7), (140, some 0), (119, some 21)], some (119, false)), ([(126, some 15), (141, some 0), (119, some 22)], some (119, false)), ([(119, some 23), (142, some 0)], none)] [(0, 143)] (by kernel_rfl) (by kernel_rfl) ?_
        refine ob_det (c := .pointer (some ⟨w.heap.size, 1, none⟩)) ?_ ?_
        · intro ρ W hk hC
          simp only [seen, obOp]
          rintro h3
          replace h3 : ρ (.tmp 3) = .pointer (some ⟨w.heap.size, 0, none⟩) := h3.trans rfl
          exact rel_value (by simp [go_sem, h3]) hC
        refine ob_det (c := .slice (some ⟨sb, so, none⟩) L.sigs.length p1) ?_ ?_
        · intro ρ W hk hC
          simp only [seen, obOp, List.getD_cons_zero]
          rintro h100
          exact rel_value (by simp [go_sem, h100, d1 W hC]) hC
        refine ob_det (c := .pointer (some ⟨w.heap.size + 1, 0, none⟩)) ?_ ?_
        · intro ρ W hk hC
          simp only [seen, obOp]
          rintro h4
          replace h4 : ρ (.tmp 4) = .pointer (some ⟨w.heap.size + 1, 0, none⟩) := h4.trans rfl
          exact rel_value (by simp [go_sem, h4]) hC
        refine ob_det (c := .int .i64 (n1 : Nat)) ?_ ?_
        · intro ρ W hk hC
          simp only [seen, obOp, List.getD_cons_zero]
          rintro h102
          exact rel_value (by simp [go_sem, h102, q0 W hC]) hC
        refine ob_det (c := .pointer (some ⟨sb, so + n1 * 2, none⟩)) ?_ ?_
        · intro ρ W hk hC
          simp only [seen, obOp, List.getD_cons_zero, List.getD_cons_succ]
          rintro h101 h103
          exact rel_value (by simp [go_sem, h101, h103, hn1]) hC
        refine ob_det (c := .pointer (some ⟨sb, so + n1 * 2, none⟩)) ?_ ?_
        · intro ρ W hk hC
          simp only [seen, obOp, List.getD_cons_zero]
          rintro h104
          exact rel_value (by simp [go_sem, h104]) hC
        refine ob_det (c := .agg #[.int .i64 ss, .int .i64 sq]) ?_ ?_
        · intro ρ W hk hC
          simp only [seen, obOp, List.getD_cons_zero]
          rintro h105
          exact rel_value (by simp [go_sem, h105, s0 W hC, s1 W hC]) hC
        refine ob_det (c := .pointer (some ⟨w.heap.size + 1, 2, none⟩)) ?_ ?_
        · intro ρ W hk hC
          simp only [seen, obOp]
          rintro h4
          replace h4 : ρ (.tmp 4) = .pointer (some ⟨w.heap.size + 1, 0, none⟩) := h4.trans rfl
          exact rel_value (by simp [go_sem, h4]) hC
        refine ob_det (c := .slice (some ⟨b, off, none⟩) n cap) ?_ ?_
        · intro ρ W hk hC
          simp only [seen, obOp, List.getD_cons_zero]
          rintro h107
          exact rel_value (by simp [go_sem, h107, q2 W hC]) hC
        refine ob_det (c := .pointer (some ⟨b, off, none⟩)) ?_ ?_
        · intro ρ W hk hC
          simp only [seen, obOp, List.getD_cons_zero]
          rintro h108
          exact rel_value (by simp [go_sem, h108, hk.const, hpos]) hC
        refine ob_det (c := .pointer (some ⟨b, off, none⟩)) ?_ ?_
        · intro ρ W hk hC
          simp only [seen, obOp, List.getD_cons_zero]
          rintro h109
          exact rel_value (by simp [go_sem, h109]) hC
        refine ob_det (c := .int .i64 xa) ?_ ?_
        · intro ρ W hk hC
          simp only [seen, obOp, List.getD_cons_zero]
          rintro h110
          exact rel_value (by simp [go_sem, h110, x0 W hC]) hC
        refine ob_det (c := .pointer (some ⟨w.heap.size + 1, 2, none⟩)) ?_ ?_
        · intro ρ W hk hC
          simp only [seen, obOp]
          rintro h4
          replace h4 : ρ (.tmp 4) = .pointer (some ⟨w.heap.size + 1, 0, none⟩) := h4.trans rfl
          exact rel_value (by simp [go_sem, h4]) hC
        refine ob_det (c := .slice (some ⟨b, off, none⟩) n cap) ?_ ?_
        · intro ρ W hk hC
          simp only [seen, obOp, List.getD_cons_zero]
          rintro h112
          exact rel_value (by simp [go_sem, h112, q2 W hC]) hC
        refine ob_det (c := .pointer (some ⟨b, off, none⟩)) ?_ ?_
        · intro ρ W hk hC
          simp only [seen, obOp, List.getD_cons_zero]
          rintro h113
          exact rel_value (by simp [go_sem, h113, hk.const, hpos]) hC
        refine ob_det (c := .pointer (some ⟨b, off + 1, none⟩)) ?_ ?_
        · intro ρ W hk hC
          simp only [seen, obOp, List.getD_cons_zero]
          rintro h114
          exact rel_value (by simp [go_sem, h114]) hC
        refine ob_det (c := .int .i64 xb) ?_ ?_
        · intro ρ W hk hC
          simp only [seen, obOp, List.getD_cons_zero]
          rintro h115
          exact rel_value (by simp [go_sem, h115, x1 W hC]) hC
        refine ob_det (c := .agg #[.int .i64 xa, .int .i64 xb]) ?_ ?_
        · intro ρ W hk hC
          simp only [seen, obOp, List.getD_cons_zero, List.getD_cons_succ]
          rintro h111 h116
          exact rel_value (by simp [go_sem, h111, h116]) hC
        refine ob_det (c := .bool true) ?_ ?_
        · intro ρ W hk hC
          simp only [seen, obOp, List.getD_cons_zero, List.getD_cons_succ]
          rintro h106 h117
          exact rel_value (by simp [go_sem, h106, h117, f1]) hC
        refine ob_det (c := .bool true) ?_ ?_
        · intro ρ W hk hC
          simp only [seen, obOp, List.getD_cons_zero]
          rintro h118
          exact rel_value (by simp [go_sem, h118]) hC
        refine ob_det (c := undef) ?_ ?_
        · intro ρ W hk hC
          simp only [seen, obOp, List.getD_cons_zero]
          rintro h3 h119
          replace h3 : ρ (.tmp 3) = .pointer (some ⟨w.heap.size, 0, none⟩) := h3.trans rfl
          exact ⟨fun h => absurd (h.symm.trans h119) (by first | simp | simp [undef]), fun _ => by trivial⟩
        refine ob_det (c := undef) ?_ ?_
        · intro ρ W hk hC
          simp only [seen, obOp, List.getD_cons_zero, List.getD_cons_succ]
          rintro h120 h119
          exact ⟨fun h => absurd (h.symm.trans h119) (by first | simp | simp [undef]), fun _ => by trivial⟩
        refine ob_det (c := undef) ?_ ?_
        · intro ρ W hk hC
          simp only [seen, obOp, List.getD_cons_zero, List.getD_cons_succ]
          rintro h4 h119
          replace h4 : ρ (.tmp 4) = .pointer (some ⟨w.heap.size + 1, 0, none⟩) := h4.trans rfl
          exact ⟨fun h => absurd (h.symm.trans h119) (by first | simp | simp [undef]), fun _ => by trivial⟩
        refine ob_det (c := undef) ?_ ?_
        · intro ρ W hk hC
          simp only [seen, obOp, List.getD_cons_zero, List.getD_cons_succ]
          rintro h122 h119
          exact ⟨fun h => absurd (h.symm.trans h119) (by first | simp | simp [undef]), fun _ => by trivial⟩
        refine ob_det (c := undef) ?_ ?_
        · intro ρ W hk hC
          simp only [seen, obOp, List.getD_cons_zero, List.getD_cons_succ]
          rintro h121 h123 h119
          exact ⟨fun h => absurd (h.symm.trans h119) (by first | simp | simp [undef]), fun _ => by trivial⟩
        refine ob_det (c := undef) ?_ ?_
        · intro ρ W hk hC
          simp only [seen, obOp, List.getD_cons_zero, List.getD_cons_succ]
          rintro h124 h119
          exact ⟨fun h => absurd (h.symm.trans h119) (by first | simp | simp [undef]), fun _ => by trivial⟩
        refine ob_det (c := undef) ?_ ?_
        · intro ρ W hk hC
          simp only [seen, obOp, List.getD_cons_zero, List.getD_cons_succ]
          rintro h125 h119
          exact ⟨fun h => absurd (h.symm.trans h119) (by first | simp | simp [undef]), fun _ => by trivial⟩
        refine ob_det (c := undef) ?_ ?_
        · intro ρ W hk hC
          simp only [seen, obOp, List.getD_cons_zero, List.getD_cons_succ]
          rintro h4 h119
          replace h4 : ρ (.tmp 4) = .pointer (some ⟨w.heap.size + 1, 0, none⟩) := h4.trans rfl
          exact ⟨fun h => absurd (h.symm.trans h119) (by first | simp | simp [undef]), fun _ => by trivial⟩
        refine ob_det (c := undef) ?_ ?_
        · intro ρ W hk hC
          simp only [seen, obOp, List.getD_cons_zero, List.getD_cons_succ]
          rintro h127 h119
          exact ⟨fun h => absurd (h.symm.trans h119) (by first | simp | simp [undef]), fun _ => by trivial⟩
        refine ob_det (c := undef) ?_ ?_
        · intro ρ W hk hC
          simp only [seen, obOp, List.getD_cons_zero, List.getD_cons_succ]
          rintro h8 h119
          replace h8 : ρ (.tmp 8) = .int .i64 (n : Nat) := h8.trans rfl
          exact ⟨fun h => absurd (h.symm.trans h119) (by first | simp | simp [undef]), fun _ => by trivial⟩
        refine ob_det (c := undef) ?_ ?_
        · intro ρ W hk hC
          simp only [seen, obOp, List.getD_cons_zero, List.getD_cons_succ]
          rintro h129 h119
          exact ⟨fun h => absurd (h.symm.trans h119) (by first | simp | simp [undef]), fun _ => by trivial⟩
        refine ob_det (c := undef) ?_ ?_
        · intro ρ W hk hC
          simp only [seen, obOp, List.getD_cons_zero, List.getD_cons_succ]
          rintro h128 h130 h119
          exact ⟨fun h => absurd (h.symm.trans h119) (by first | simp | simp [undef]), fun _ => by trivial⟩
        refine ob_det (c := undef) ?_ ?_
        · intro ρ W hk hC
          simp only [seen, obOp, List.getD_cons_zero, List.getD_cons_succ]
          rintro h131 h119
          exact ⟨fun h => absurd (h.symm.trans h119) (by first | simp | simp [undef]), fun _ => by trivial⟩
        refine ob_det (c := undef) ?_ ?_
        · intro ρ W hk hC
          simp only [seen, obOp, List.getD_cons_zero, List.getD_cons_succ]
          rintro h132 h119
          exact ⟨fun h => absurd (h.symm.trans h119) (by first | simp | simp [undef]), fun _ => by trivial⟩
        refine ob_det (c := undef) ?_ ?_
        · intro ρ W hk hC
          simp only [seen, obOp, List.getD_cons_zero, List.getD_cons_succ]
          rintro h4 h119
          replace h4 : ρ (.tmp 4) = .pointer (some ⟨w.heap.size + 1, 0, none⟩) := h4.trans rfl
          exact ⟨fun h => absurd (h.symm.trans h119) (by first | simp | simp [undef]), fun _ => by trivial⟩
        refine ob_det (c := undef) ?_ ?_
        · intro ρ W hk hC
          simp only [seen, obOp, List.getD_cons_zero, List.getD_cons_succ]
          rintro h134 h119
          exact ⟨fun h => absurd (h.symm.trans h119) (by first | simp | simp [undef]), fun _ => by trivial⟩
        refine ob_det (c := undef) ?_ ?_
        · intro ρ W hk hC
          simp only [seen, obOp, List.getD_cons_zero, List.getD_cons_succ]
          rintro h8 h119
          replace h8 : ρ (.tmp 8) = .int .i64 (n : Nat) := h8.trans rfl
          exact ⟨fun h => absurd (h.symm.trans h119) (by first | simp | simp [undef]), fun _ => by trivial⟩
        refine ob_det (c := undef) ?_ ?_
        · intro ρ W hk hC
          simp only [seen, obOp, List.getD_cons_zero, List.getD_cons_succ]
          rintro h136 h119
          exact ⟨fun h => absurd (h.symm.trans h119) (by first | simp | simp [undef]), fun _ => by trivial⟩
        refine ob_det (c := undef) ?_ ?_
        · intro ρ W hk hC
          simp only [seen, obOp, List.getD_cons_zero, List.getD_cons_succ]
          rintro h135 h137 h119
          exact ⟨fun h => absurd (h.symm.trans h119) (by first | simp | simp [undef]), fun _ => by trivial⟩
        refine ob_det (c := undef) ?_ ?_
        · intro ρ W hk hC
          simp only [seen, obOp, List.getD_cons_zero, List.getD_cons_succ]
          rintro h138 h119
          exact ⟨fun h => absurd (h.symm.trans h119) (by first | simp | simp [undef]), fun _ => by trivial⟩
        refine ob_det (c := undef) ?_ ?_
        · intro ρ W hk hC
          simp only [seen, obOp, List.getD_cons_zero, List.getD_cons_succ]
          rintro h139 h119
          exact ⟨fun h => absurd (h.symm.trans h119) (by first | simp | simp [undef]), fun _ => by trivial⟩
        refine ob_det (c := undef) ?_ ?_
        · intro ρ W hk hC
          simp only [seen, obOp, List.getD_cons_zero, List.getD_cons_succ]
          rintro h133 h140 h119
          exact ⟨fun h => absurd (h.symm.trans h119) (by first | simp | simp [undef]), fun _ => by trivial⟩
        refine ob_det (c := undef) ?_ ?_
        · intro ρ W hk hC
          simp only [seen, obOp, List.getD_cons_zero, List.getD_cons_succ]
          rintro h126 h141 h119
          exact ⟨fun h => absurd (h.symm.trans h119) (by first | simp | simp [undef]), fun _ => by trivial⟩
        refine ob_det (c := .bool true) ?_ ?_
        · intro ρ W hk hC
          simp only [seen, obOp, List.getD_cons_zero, List.getD_cons_succ]
          rintro h119 h142
          exact rel_value (by simp [go_sem, h119, h142, hk.const]) hC
        intro vs11 w11 hC11
        simp only [endSeen, List.getD_cons_zero]
        intro h143
        simp only [writeAll, List.setIfInBounds_toArray, List.set_cons_zero, List.set_cons_succ, h143]
        go_wp2
        go_ret
        exact ⟨rfl, bchain HW9.out hC11⟩
    rw [decide_eq_true hS] at f1
    have f2 := fun V' => eqQ_portI es ep ya yc V'
    by_cases hE : es = ya ∧ ep = yc
    case neg =>
      obtain rfl : r = 110 := HRR.out.1 fun h => by
        have := h.2.2.1 _ (by rw [← HQ.out.2.2.2.1, HLM.out, Nat.add_sub_cancel]; exact HXY.out.2.1)
        cases this
        exact hE ⟨rfl, rfl⟩
      rw [decide_eq_false hE] at f2
      clear hS hE
      focus
        refine wp_region_rel_below [([(3, none)], none), ([(100, some 0)], none), ([(4, none)], none), ([(102, some 0)], none), ([(101, some 2), (103, some 0)], none), ([(104, some 0)], none), ([(105, some 0)], none), ([(4, none)], none), ([(107, some 0)], none), ([(108, some 0)], none), ([(109, some 0)], none), ([(110, some 0)], none), ([(4, none)], none), ([(112, some 0)], none), ([(113, some 0)], none), ([(114, some 0)], none), ([(115, some 0)], none), ([(111, some 5), (116, some 0)], none), ([(106, some 11), (117, some 0)], none), ([(118, some 0)], none), ([(3, none), (119, some 0)], some (119, false)), ([(120, some 0), (119, some 1)], some (119, false)), ([(4, none), (119, some 2)], some (119, false)), ([(122, some 0), (119, some 3)], some (119, false)), ([(121, some 2), (123, some 0), (119, some 4)], some (119, false)), ([(124, some 0), (119, some 5)], some (119, false)), ([(125, some 0), (119, some 6)], some (119, false)), ([(4, none), (119, some 7)], some (119, false)), ([(127, some 0), (119, some 8)], some (119, false)), ([(8, none), (119, some 9)], some (119, false)), ([(129, some 0), (119, some 10)], some (119, false)), ([(128, some 2), (130, some 0), (119, some 11)], some (119, false)), ([(131, some 0), (119, some 12)], some (119, false)), ([(132, some 0), (119, some 13)], some (119, false)), ([(4, none), (119, some 14)], some (119, false)), ([(134, some 0), (119, some 15)], some (119, false)), ([(8, none), (119, some 16)], some (119, false)), ([(136, some 0), (119, some 17)], some (119, false)), ([(135, some 2), (137, some 0), (119, some 18)], some (119, false)), ([(138, some 0), (119, some 19)], some (119, false)), ([(139, some 0), (119, some 20)], some (119, false)), ([(133, some 7), (140, some 0), (119, some 21)], some (119, false)), ([(126, some 15), (141, some 0), (119, some 22)], some (119, false)), ([(119, some 23), (142, some 0)], none)] [(0, 143)] (by kernel_rfl) (by kernel_rfl) ?_
        refine ob_det (c := .pointer (some ⟨w.heap.size, 1, none⟩)) ?_ ?_
        · intro ρ W hk hC
          simp only [seen, obOp]
          rintro h3
          replace h3 : ρ (.tmp 3) = .pointer (some ⟨w.heap.size, 0, none⟩) := h3.trans rfl
          exact rel_value (by simp [go_sem, h3]) hC
        refine ob_det (c := .slice (some ⟨sb, so, none⟩) L.sigs.length p1) ?_ ?_
        · intro ρ W hk hC
          simp only [seen, obOp, List.getD_cons_zero]
          rintro h100
          exact rel_value (by simp [go_sem, h100, d1 W hC]) hC
        refine ob_det (c := .pointer (some ⟨w.heap.size + 1, 0, none⟩)) ?_ ?_
        · intro ρ W hk hC
          simp only [seen, obOp]
          rintro h4
          replace h4 : ρ (.tmp 4) = .pointer (some ⟨w.heap.size + 1, 0, none⟩) := h4.trans rfl
          exact rel_value (by simp [go_sem, h4]) hC
        refine ob_det (c := .int .i64 (n1 : Nat)) ?_ ?_
        · intro ρ W hk hC
          simp only [seen, obOp, List.getD_cons_zero]
          rintro h102
          exact rel_value (by simp [go_sem, h102, q0 W hC]) hC
        refine ob_det (c := .pointer (some ⟨sb, so + n1 * 2, none⟩)) ?_ ?_
        · intro ρ W hk hC
          simp only [seen, obOp, List.getD_cons_zero, List.getD_cons_succ]
          rintro h101 h103
          exact rel_value (by simp [go_sem, h101, h103, hn1]) hC
        refine ob_det (c := .pointer (some ⟨sb, so + n1 * 2, none⟩)) ?_ ?_
        · intro ρ W hk hC
          simp only [seen, obOp, List.getD_cons_zero]
          rintro h104
          exact rel_value (by simp [go_sem, h104]) hC
        refine ob_det (c := .agg #[.int .i64 ss, .int .i64 sq]) ?_ ?_
        · intro ρ W hk hC
          simp only [seen, obOp, List.getD_cons_zero]
          rintro h105
          exact rel_value (by simp [go_sem, h105, s0 W hC, s1 W hC]) hC
        refine ob_det (c := .pointer (some ⟨w.heap.size + 1, 2, none⟩)) ?_ ?_
        · intro ρ W hk hC
          simp only [seen, obOp]
          rintro h4
          replace h4 : ρ (.tmp 4) = .pointer (some ⟨w.heap.size + 1, 0, none⟩) := h4.trans rfl
          exact rel_value (by simp [go_sem, h4]) hC
        refine ob_det (c := .slice (some ⟨b, off, none⟩) n cap) ?_ ?_
        · intro ρ W hk hC
          simp only [seen, obOp, List.getD_cons_zero]
          rintro h107
          exact rel_value (by simp [go_sem, h107, q2 W hC]) hC
        refine ob_det (c := .pointer (some ⟨b, off, none⟩)) ?_ ?_
        · intro ρ W hk hC
          simp only [seen, obOp, List.getD_cons_zero]
          rintro h108
          exact rel_value (by simp [go_sem, h108, hk.const, hpos]) hC
        refine ob_det (c := .pointer (some ⟨b, off, none⟩)) ?_ ?_
        · intro ρ W hk hC
          simp only [seen, obOp, List.getD_cons_zero]
          rintro h109
          exact rel_value (by simp [go_sem, h109]) hC
        refine ob_det (c := .int .i64 xa) ?_ ?_
        · intro ρ W hk hC
          simp only [seen, obOp, List.getD_cons_zero]
          rintro h110
          exact rel_value (by simp [go_sem, h110, x0 W hC]) hC
        refine ob_det (c := .pointer (some ⟨w.heap.size + 1, 2, none⟩)) ?_ ?_
        · intro ρ W hk hC
          simp only [seen, obOp]
          rintro h4
          replace h4 : ρ (.tmp 4) = .pointer (some ⟨w.heap.size + 1, 0, none⟩) := h4.trans rfl
          exact rel_value (by simp [go_sem, h4]) hC
        refine ob_det (c := .slice (some ⟨b, off, none⟩) n cap) ?_ ?_
        · intro ρ W hk hC
          simp only [seen, obOp, List.getD_cons_zero]
          rintro h112
          exact rel_value (by simp [go_sem, h112, q2 W hC]) hC
        refine ob_det (c := .pointer (some ⟨b, off, none⟩)) ?_ ?_
        · intro ρ W hk hC
          simp only [seen, obOp, List.getD_cons_zero]
          rintro h113
          exact rel_value (by simp [go_sem, h113, hk.const, hpos]) hC
        refine ob_det (c := .pointer (some ⟨b, off + 1, none⟩)) ?_ ?_
        · intro ρ W hk hC
          simp only [seen, obOp, List.getD_cons_zero]
          rintro h114
          exact rel_value (by simp [go_sem, h114]) hC
        refine ob_det (c := .int .i64 xb) ?_ ?_
        · intro ρ W hk hC
          simp only [seen, obOp, List.getD_cons_zero]
          rintro h115
          exact rel_value (by simp [go_sem, h115, x1 W hC]) hC
        refine ob_det (c := .agg #[.int .i64 xa, .int .i64 xb]) ?_ ?_
        · intro ρ W hk hC
          simp only [seen, obOp, List.getD_cons_zero, List.getD_cons_succ]
          rintro h111 h116
          exact rel_value (by simp [go_sem, h111, h116]) hC
        refine ob_det (c := .bool false) ?_ ?_
        · intro ρ W hk hC
          simp only [seen, obOp, List.getD_cons_zero, List.getD_cons_succ]
          rintro h106 h117
          exact rel_value (by simp [go_sem, h106, h117, f1]) hC
        refine ob_det (c := .bool false) ?_ ?_
        · intro ρ W hk hC
          simp only [seen, obOp, List.getD_cons_zero]
          rintro h118
          exact rel_value (by simp [go_sem, h118]) hC
        refine ob_det (c := .pointer (some ⟨w.heap.size, 2, none⟩)) ?_ ?_
        · intro ρ W hk hC
          simp only [seen, obOp, List.getD_cons_zero]
          rintro h3 h119
          replace h3 : ρ (.tmp 3) = .pointer (some ⟨w.heap.size, 0, none⟩) := h3.trans rfl
          refine ⟨fun _ => ?_, fun hn => absurd h119 hn⟩
          exact rel_value (by simp [go_sem, h3]) hC
        refine ob_det (c := .slice (some ⟨eb, eo, none⟩) L.exits.length p2) ?_ ?_
        · intro ρ W hk hC
          simp only [seen, obOp, List.getD_cons_zero, List.getD_cons_succ]
          rintro h120 h119
          refine ⟨fun _ => ?_, fun hn => absurd h119 hn⟩
          exact rel_value (by simp [go_sem, h120, d2 W hC]) hC
        refine ob_det (c := .pointer (some ⟨w.heap.size + 1, 1, none⟩)) ?_ ?_
        · intro ρ W hk hC
          simp only [seen, obOp, List.getD_cons_zero, List.getD_cons_succ]
          rintro h4 h119
          replace h4 : ρ (.tmp 4) = .pointer (some ⟨w.heap.size + 1, 0, none⟩) := h4.trans rfl
          refine ⟨fun _ => ?_, fun hn => absurd h119 hn⟩
          exact rel_value (by simp [go_sem, h4]) hC
        refine ob_det (c := .int .i64 (m1 : Nat)) ?_ ?_
        · intro ρ W hk hC
          simp only [seen, obOp, List.getD_cons_zero, List.getD_cons_succ]
          rintro h122 h119
          refine ⟨fun _ => ?_, fun hn => absurd h119 hn⟩
          exact rel_value (by simp [go_sem, h122, q1 W hC]) hC
        refine ob_det (c := .pointer (some ⟨eb, eo + m1 * 3, none⟩)) ?_ ?_
        · intro ρ W hk hC
          simp only [seen, obOp, List.getD_cons_zero, List.getD_cons_succ]
          rintro h121 h123 h119
          refine ⟨fun _ => ?_, fun hn => absurd h119 hn⟩
          exact rel_value (by simp [go_sem, h121, h123, hm1]) hC
        refine ob_det (c := .pointer (some ⟨eb, eo + m1 * 3, none⟩)) ?_ ?_
        · intro ρ W hk hC
          simp only [seen, obOp, List.getD_cons_zero, List.getD_cons_succ]
          rintro h124 h119
          refine ⟨fun _ => ?_, fun hn => absurd h119 hn⟩
          exact rel_value (by simp [go_sem, h124]) hC
        refine ob_det (c := .agg #[.int .i64 es, .int .i64 ep]) ?_ ?_
        · intro ρ W hk hC
          simp only [seen, obOp, List.getD_cons_zero, List.getD_cons_succ]
          rintro h125 h119
          refine ⟨fun _ => ?_, fun hn => absurd h119 hn⟩
          exact rel_value (by simp [go_sem, h125, j0 W hC, j1 W hC]) hC
        refine ob_det (c := .pointer (some ⟨w.heap.size + 1, 2, none⟩)) ?_ ?_
        · intro ρ W hk hC
          simp only [seen, obOp, List.getD_cons_zero, List.getD_cons_succ]
          rintro h4 h119
          replace h4 : ρ (.tmp 4) = .pointer (some ⟨w.heap.size + 1, 0, none⟩) := h4.trans rfl
          refine ⟨fun _ => ?_, fun hn => absurd h119 hn⟩
          exact rel_value (by simp [go_sem, h4]) hC
        refine ob_det (c := .slice (some ⟨b, off, none⟩) n cap) ?_ ?_
        · intro ρ W hk hC
          simp only [seen, obOp, List.getD_cons_zero, List.getD_cons_succ]
          rintro h127 h119
          refine ⟨fun _ => ?_, fun hn => absurd h119 hn⟩
          exact rel_value (by simp [go_sem, h127, q2 W hC]) hC
        refine ob_det (c := .int .i64 (n : Nat)) ?_ ?_
        · intro ρ W hk hC
          simp only [seen, obOp, List.getD_cons_zero, List.getD_cons_succ]
          rintro h8 h119
          replace h8 : ρ (.tmp 8) = .int .i64 (n : Nat) := h8.trans rfl
          refine ⟨fun _ => ?_, fun hn => absurd h119 hn⟩
          exact rel_value (by simp [go_sem, h8]) hC
        refine ob_det (c := .int .i64 (lm : Nat)) ?_ ?_
        · intro ρ W hk hC
          simp only [seen, obOp, List.getD_cons_zero, List.getD_cons_succ]
          rintro h129 h119
          refine ⟨fun _ => ?_, fun hn => absurd h119 hn⟩
          exact rel_value (by simp [go_sem, h129, hk.const, hsub, hwm]) hC
        refine ob_det (c := .pointer (some ⟨b, off + lm * 3, none⟩)) ?_ ?_
        · intro ρ W hk hC
          simp only [seen, obOp, List.getD_cons_zero, List.getD_cons_succ]
          rintro h128 h130 h119
          refine ⟨fun _ => ?_, fun hn => absurd h119 hn⟩
          exact rel_value (by simp [go_sem, h128, h130, hml]) hC
        refine ob_det (c := .pointer (some ⟨b, off + lm * 3, none⟩)) ?_ ?_
        · intro ρ W hk hC
          simp only [seen, obOp, List.getD_cons_zero, List.getD_cons_succ]
          rintro h131 h119
          refine ⟨fun _ => ?_, fun hn => absurd h119 hn⟩
          exact rel_value (by simp [go_sem, h131]) hC
        refine ob_det (c := .int .i64 ya) ?_ ?_
        · intro ρ W hk hC
          simp only [seen, obOp, List.getD_cons_zero, List.getD_cons_succ]
          rintro h132 h119
          refine ⟨fun _ => ?_, fun hn => absurd h119 hn⟩
          exact rel_value (by simp [go_sem, h132, y0 W hC]) hC
        refine ob_det (c := .pointer (some ⟨w.heap.size + 1, 2, none⟩)) ?_ ?_
        · intro ρ W hk hC
          simp only [seen, obOp, List.getD_cons_zero, List.getD_cons_succ]
          rintro h4 h119
          replace h4 : ρ (.tmp 4) = .pointer (some ⟨w.heap.size + 1, 0, none⟩) := h4.trans rfl
          refine ⟨fun _ => ?_, fun hn => absurd h119 hn⟩
          exact rel_value (by simp [go_sem, h4]) hC
        refine ob_det (c := .slice (some ⟨b, off, none⟩) n cap) ?_ ?_
        · intro ρ W hk hC
          simp only [seen, obOp, List.getD_cons_zero, List.getD_cons_succ]
          rintro h134 h119
          refine ⟨fun _ => ?_, fun hn => absurd h119 hn⟩
          exact rel_value (by simp [go_sem, h134, q2 W hC]) hC
        refine ob_det (c := .int .i64 (n : Nat)) ?_ ?_
        · intro ρ W hk hC
          simp only [seen, obOp, List.getD_cons_zero, List.getD_cons_succ]
          rintro h8 h119
          replace h8 : ρ (.tmp 8) = .int .i64 (n : Nat) := h8.trans rfl
          refine ⟨fun _ => ?_, fun hn => absurd h119 hn⟩
          exact rel_value (by simp [go_sem, h8]) hC
        refine ob_det (c := .int .i64 (lm : Nat)) ?_ ?_
        · intro ρ W hk hC
          simp only [seen, obOp, List.getD_cons_zero, List.getD_cons_succ]
          rintro h136 h119
          refine ⟨fun _ => ?_, fun hn => absurd h119 hn⟩
          exact rel_value (by simp [go_sem, h136, hk.const, hsub, hwm]) hC
        refine ob_det (c := .pointer (some ⟨b, off + lm * 3, none⟩)) ?_ ?_
        · intro ρ W hk hC
          simp only [seen, obOp, List.getD_cons_zero, List.getD_cons_succ]
          rintro h135 h137 h119
          refine ⟨fun _ => ?_, fun hn => absurd h119 hn⟩
          exact rel_value (by simp [go_sem, h135, h137, hml]) hC
        refine ob_det (c := .pointer (some ⟨b, off + lm * 3 + 2, none⟩)) ?_ ?_
        · intro ρ W hk hC
          simp only [seen, obOp, List.getD_cons_zero, List.getD_cons_succ]
          rintro h138 h119
          refine ⟨fun _ => ?_, fun hn => absurd h119 hn⟩
          exact rel_value (by simp [go_sem, h138]) hC
        refine ob_det (c := .int .i64 yc) ?_ ?_
        · intro ρ W hk hC
          simp only [seen, obOp, List.getD_cons_zero, List.getD_cons_succ]
          rintro h139 h119
          refine ⟨fun _ => ?_, fun hn => absurd h119 hn⟩
          exact rel_value (by simp [go_sem, h139, y2 W hC]) hC
        refine ob_det (c := .agg #[.int .i64 ya, .int .i64 yc]) ?_ ?_
        · intro ρ W hk hC
          simp only [seen, obOp, List.getD_cons_zero, List.getD_cons_succ]
          rintro h133 h140 h119
          refine ⟨fun _ => ?_, fun hn => absurd h119 hn⟩
          exact rel_value (by simp [go_sem, h133, h140]) hC
        refine ob_det (c := .bool true) ?_ ?_
        · intro ρ W hk hC
          simp only [seen, obOp, List.getD_cons_zero, List.getD_cons_succ]
          rintro h126 h141 h119
          refine ⟨fun _ => ?_, fun hn => absurd h119 hn⟩
          exact rel_value (by simp [go_sem, h126, h141, f2]) hC
        refine ob_det (c := .bool true) ?_ ?_
        · intro ρ W hk hC
          simp only [seen, obOp, List.getD_cons_zero, List.getD_cons_succ]
          rintro h119 h142
          exact rel_value (by simp [go_sem, h119, h142, hk.const]) hC
        intro vs11 w11 hC11
        simp only [endSeen, List.getD_cons_zero]
        intro h143
        simp only [writeAll, List.setIfInBounds_toArray, List.set_cons_zero, List.set_cons_succ, h143]
        go_wp2
        go_ret
        exact ⟨rfl, bchain HW9.out hC11⟩
    rw [decide_eq_true hE] at f2
    have HSE := Lib.hid (⟨hS, hE⟩ : _ ∧ _)
    clear hS hE
    focus
      refine wp_region_rel_below [([(3, none)], none), ([(100, some 0)], none), ([(4, none)], none), ([(102, some 0)], none), ([(101, some 2), (103, some 0)], none), ([(104, some 0)], none), ([(105, some 0)], none), ([(4, none)], none), ([(107, some 0)], none), ([(108, some 0)], none), ([(109, some 0)], none), ([(110, some 0)], none), ([(4, none)], none), ([(112, some 0)], none), ([(113, some 0)], none), ([(114, some 0)], none), ([(115, some 0)], none), ([(111, some 5), (116, some 0)], none), ([(106, some 11), (117, some 0)], none), ([(118, some 0)], none), ([(3, none), (119, some 0)], some (119, false)), ([(120, some 0), (119, some 1)], some (119, false)), ([(4, none), (119, some 2)], some (119, false)), ([(122, some 0), (119, some 3)], some (119, false)), ([(121, some 2), (123, some 0), (119, some 4)], some (119, false)), ([(124, some 0), (119, some 5)], some (119, false)), ([(125, some 0), (119, some 6)], some (119, false)), ([(4, none), (119, some 7)], some (119, false)), ([(127, some 0), (119, some 8)], some (119, false)), ([(8, none), (119, some 9)], some (119, false)), ([(129, some 0), (119, some 10)], some (119, false)), ([(128, some 2), (130, some 0), (119, some 11)], some (119, false)), ([(131, some 0), (119, some 12)], some (119, false)), ([(132, some 0), (119, some 13)], some (119, false)), ([(4, none), (119, some 14)], some (119, false)), ([(134, some 0), (119, some 15)], some (119, false)), ([(8, none), (119, some 16)], some (119, false)), ([(136, some 0), (119, some 17)], some (119, false)), ([(135, some 2), (137, some 0), (119, some 18)], some (119, false)), ([(138, some 0), (119, some 19)], some (119, false)), ([(139, some 0), (119, some 20)], some (119, false)), ([(133, some 7), (140, some 0), (119, some 21)], some (119, false)), ([(126, some 15), (141, some 0), (119, some 22)], some (119, false)), ([(119, some 23), (142, some 0)], none)] [(0, 143)] (by kernel_rfl) (by kernel_rfl) ?_
      refine ob_det (c := .pointer (some ⟨w.heap.size, 1, none⟩)) ?_ ?_
      · intro ρ W hk hC
        simp only [seen, obOp]
        rintro h3
        replace h3 : ρ (.tmp 3) = .pointer (some ⟨w.heap.size, 0, none⟩) := h3.trans rfl
        exact rel_value (by simp [go_sem, h3]) hC
      refine ob_det (c := .slice (some ⟨sb, so, none⟩) L.sigs.length p1) ?_ ?_
      · intro ρ W hk hC
        simp only [seen, obOp, List.getD_cons_zero]
        rintro h100
        exact rel_value (by simp [go_sem, h100, d1 W hC]) hC
      refine ob_det (c := .pointer (some ⟨w.heap.size + 1, 0, none⟩)) ?_ ?_
      · intro ρ W hk hC
        simp only [seen, obOp]
        rintro h4
        replace h4 : ρ (.tmp 4) = .pointer (some ⟨w.heap.size + 1, 0, none⟩) := h4.trans rfl
        exact rel_value (by simp [go_sem, h4]) hC
      refine ob_det (c := .int .i64 (n1 : Nat)) ?_ ?_
      · intro ρ W hk hC
        simp only [seen, obOp, List.getD_cons_zero]
        rintro h102
        exact rel_value (by simp [go_sem, h102, q0 W hC]) hC
      refine ob_det (c := .pointer (some ⟨sb, so + n1 * 2, none⟩)) ?_ ?_
      · intro ρ W hk hC
        simp only [seen, obOp, List.getD_cons_zero, List.getD_cons_succ]
        rintro h101 h103
        exact rel_value (by simp [go_sem, h101, h103, hn1]) hC
      refine ob_det (c := .pointer (some ⟨sb, so + n1 * 2, none⟩)) ?_ ?_
      · intro ρ W hk hC
        simp only [seen, obOp, List.getD_cons_zero]
        rintro h104
        exact rel_value (by simp [go_sem, h104]) hC
      refine ob_det (c := .agg #[.int .i64 ss, .int .i64 sq]) ?_ ?_
      · intro ρ W hk hC
        simp only [seen, obOp, List.getD_cons_zero]
        rintro h105
        exact rel_value (by simp [go_sem, h105, s0 W hC, s1 W hC]) hC
      refine ob_det (c := .pointer (some ⟨w.heap.size + 1, 2, none⟩)) ?_ ?_
      · intro ρ W hk hC
        simp only [seen, obOp]
        rintro h4
        replace h4 : ρ (.tmp 4) = .pointer (some ⟨w.heap.size + 1, 0, none⟩) := h4.trans rfl
        exact rel_value (by simp [go_sem, h4]) hC
      refine ob_det (c := .slice (some ⟨b, off, none⟩) n cap) ?_ ?_
      · intro ρ W hk hC
        simp only [seen, obOp, List.getD_cons_zero]
        rintro h107
        exact rel_value (by simp [go_sem, h107, q2 W hC]) hC
      refine ob_det (c := .pointer (some ⟨b, off, none⟩)) ?_ ?_
      · intro ρ W hk hC
        simp only [seen, obOp, List.getD_cons_zero]
        rintro h108
        exact rel_value (by simp [go_sem, h108, hk.const, hpos]) hC
      refine ob_det (c := .pointer (some ⟨b, off, none⟩)) ?_ ?_
      · intro ρ W hk hC
        simp only [seen, obOp, List.getD_cons_zero]
        rintro h109
        exact rel_value (by simp [go_sem, h109]) hC
      refine ob_det (c := .int .i64 xa) ?_ ?_
      · intro ρ W hk hC
        simp only [seen, obOp, List.getD_cons_zero]
        rintro h110
        exact rel_value (by simp [go_sem, h110, x0 W hC]) hC
      refine ob_det (c := .pointer (some ⟨w.heap.size + 1, 2, none⟩)) ?_ ?_
      · intro ρ W hk hC
        simp only [seen, obOp]
        rintro h4
        replace h4 : ρ (.tmp 4) = .pointer (some ⟨w.heap.size + 1, 0, none⟩) := h4.trans rfl
        exact rel_value (by simp [go_sem, h4]) hC
      refine ob_det (c := .slice (some ⟨b, off, none⟩) n cap) ?_ ?_
      · intro ρ W hk hC
        simp only [seen, obOp, List.getD_cons_zero]
        rintro h112
        exact rel_value (by simp [go_sem, h112, q2 W hC]) hC
      refine ob_det (c := .pointer (some ⟨b, off, none⟩)) ?_ ?_
      · intro ρ W hk hC
        simp only [seen, obOp, List.getD_cons_zero]
        rintro h113
        exact rel_value (by simp [go_sem, h113, hk.const, hpos]) hC
      refine ob_det (c := .pointer (some ⟨b, off + 1, none⟩)) ?_ ?_
      · intro ρ W hk hC
        simp only [seen, obOp, List.getD_cons_zero]
        rintro h114
        exact rel_value (by simp [go_sem, h114]) hC
      refine ob_det (c := .int .i64 xb) ?_ ?_
      · intro ρ W hk hC
        simp only [seen, obOp, List.getD_cons_zero]
        rintro h115
        exact rel_value (by simp [go_sem, h115, x1 W hC]) hC
      refine ob_det (c := .agg #[.int .i64 xa, .int .i64 xb]) ?_ ?_
      · intro ρ W hk hC
        simp only [seen, obOp, List.getD_cons_zero, List.getD_cons_succ]
        rintro h111 h116
        exact rel_value (by simp [go_sem, h111, h116]) hC
      refine ob_det (c := .bool false) ?_ ?_
      · intro ρ W hk hC
        simp only [seen, obOp, List.getD_cons_zero, List.getD_cons_succ]
        rintro h106 h117
        exact rel_value (by simp [go_sem, h106, h117, f1]) hC
      refine ob_det (c := .bool false) ?_ ?_
      · intro ρ W hk hC
        simp only [seen, obOp, List.getD_cons_zero]
        rintro h118
        exact rel_value (by simp [go_sem, h118]) hC
      refine ob_det (c := .pointer (some ⟨w.heap.size, 2, none⟩)) ?_ ?_
      · intro ρ W hk hC
        simp only [seen, obOp, List.getD_cons_zero]
        rintro h3 h119
        replace h3 : ρ (.tmp 3) = .pointer (some ⟨w.heap.size, 0, none⟩) := h3.trans rfl
        refine ⟨fun _ => ?_, fun hn => absurd h119 hn⟩
        exact rel_value (by simp [go_sem, h3]) hC
      refine ob_det (c := .slice (some ⟨eb, eo, none⟩) L.exits.length p2) ?_ ?_
      · intro ρ W hk hC
        simp only [seen, obOp, List.getD_cons_zero, List.getD_cons_succ]
        rintro h120 h119
        refine ⟨fun _ => ?_, fun hn => absurd h119 hn⟩
        exact rel_value (by simp [go_sem, h120, d2 W hC]) hC
      refine ob_det (c := .pointer (some ⟨w.heap.size + 1, 1, none⟩)) ?_ ?_
      · intro ρ W hk hC
        simp only [seen, obOp, List.getD_cons_zero, List.getD_cons_succ]
        rintro h4 h119
        replace h4 : ρ (.tmp 4) = .pointer (some ⟨w.heap.size + 1, 0, none⟩) := h4.trans rfl
        refine ⟨fun _ => ?_, fun hn => absurd h119 hn⟩
        exact rel_value (by simp [go_sem, h4]) hC
      refine ob_det (c := .int .i64 (m1 : Nat)) ?_ ?_
      · intro ρ W hk hC
        simp only [seen, obOp, List.getD_cons_zero, List.getD_cons_succ]
        rintro h122 h119
        refine ⟨fun _ => ?_, fun hn => absurd h119 hn⟩
        exact rel_value (by simp [go_sem, h122, q1 W hC]) hC
      refine ob_det (c := .pointer (some ⟨eb, eo + m1 * 3, none⟩)) ?_ ?_
      · intro ρ W hk hC
        simp only [seen, obOp, List.getD_cons_zero, List.getD_cons_succ]
        rintro h121 h123 h119
        refine ⟨fun _ => ?_, fun hn => absurd h119 hn⟩
        exact rel_value (by simp [go_sem, h121, h123, hm1]) hC
      refine ob_det (c := .pointer (some ⟨eb, eo + m1 * 3, none⟩)) ?_ ?_
      · intro ρ W hk hC
        simp only [seen, obOp, List.getD_cons_zero, List.getD_cons_succ]
        rintro h124 h119
        refine ⟨fun _ => ?_, fun hn => absurd h119 hn⟩
        exact rel_value (by simp [go_sem, h124]) hC
      refine ob_det (c := .agg #[.int .i64 es, .int .i64 ep]) ?_ ?_
      · intro ρ W hk hC
        simp only [seen, obOp, List.getD_cons_zero, List.getD_cons_succ]
        rintro h125 h119
        refine ⟨fun _ => ?_, fun hn => absurd h119 hn⟩
        exact rel_value (by simp [go_sem, h125, j0 W hC, j1 W hC]) hC
      refine ob_det (c := .pointer (some ⟨w.heap.size + 1, 2, none⟩)) ?_ ?_
      · intro ρ W hk hC
        simp only [seen, obOp, List.getD_cons_zero, List.getD_cons_succ]
        rintro h4 h119
        replace h4 : ρ (.tmp 4) = .pointer (some ⟨w.heap.size + 1, 0, none⟩) := h4.trans rfl
        refine ⟨fun _ => ?_, fun hn => absurd h119 hn⟩
        exact rel_value (by simp [go_sem, h4]) hC
      refine ob_det (c := .slice (some ⟨b, off, none⟩) n cap) ?_ ?_
      · intro ρ W hk hC
        simp only [seen, obOp, List.getD_cons_zero, List.getD_cons_succ]
        rintro h127 h119
        refine ⟨fun _ => ?_, fun hn => absurd h119 hn⟩
        exact rel_value (by simp [go_sem, h127, q2 W hC]) hC
      refine ob_det (c := .int .i64 (n : Nat)) ?_ ?_
      · intro ρ W hk hC
        simp only [seen, obOp, List.getD_cons_zero, List.getD_cons_succ]
        rintro h8 h119
        replace h8 : ρ (.tmp 8) = .int .i64 (n : Nat) := h8.trans rfl
        refine ⟨fun _ => ?_, fun hn => absurd h119 hn⟩
        exact rel_value (by simp [go_sem, h8]) hC
      refine ob_det (c := .int .i64 (lm : Nat)) ?_ ?_
      · intro ρ W hk hC
        simp only [seen, obOp, List.getD_cons_zero, List.getD_cons_succ]
        rintro h129 h119
        refine ⟨fun _ => ?_, fun hn => absurd h119 hn⟩
        exact rel_value (by simp [go_sem, h129, hk.const, hsub, hwm]) hC
      refine ob_det (c := .pointer (some ⟨b, off + lm * 3, none⟩)) ?_ ?_
      · intro ρ W hk hC
        simp only [seen, obOp, List.getD_cons_zero, List.getD_cons_succ]
        rintro h128 h130 h119
        refine ⟨fun _ => ?_, fun hn => absurd h119 hn⟩
        exact rel_value (by simp [go_sem, h128, h130, hml]) hC
      refine ob_det (c := .pointer (some ⟨b, off + lm * 3, none⟩)) ?_ ?_
      · intro ρ W hk hC
        simp only [seen, obOp, List.getD_cons_zero, List.getD_cons_succ]
        rintro h131 h119
        refine ⟨fun _ => ?_, fun hn => absurd h119 hn⟩
        exact rel_value (by simp [go_sem, h131]) hC
      refine ob_det (c := .int .i64 ya) ?_ ?_
      · intro ρ W hk hC
        simp only [seen, obOp, List.getD_cons_zero, List.getD_cons_succ]
        rintro h132 h119
        refine ⟨fun _ => ?_, fun hn => absurd h119 hn⟩
        exact rel_value (by simp [go_sem, h132, y0 W hC]) hC
      refine ob_det (c := .pointer (some ⟨w.heap.size + 1, 2, none⟩)) ?_ ?_
      · intro ρ W hk hC
        simp only [seen, obOp, List.getD_cons_zero, List.getD_cons_succ]
        rintro h4 h119
        replace h4 : ρ (.tmp 4) = .pointer (some ⟨w.heap.size + 1, 0, none⟩) := h4.trans rfl
        refine ⟨fun _ => ?_, fun hn => absurd h119 hn⟩
        exact rel_value (by simp [go_sem, h4]) hC
      refine ob_det (c := .slice (some ⟨b, off, none⟩) n cap) ?_ ?_
      · intro ρ W hk hC
        simp only [seen, obOp, List.getD_cons_zero, List.getD_cons_succ]
        rintro h134 h119
        refine ⟨fun _ => ?_, fun hn => absurd h119 hn⟩
        exact rel_value (by simp [go_sem, h134, q2 W hC]) hC
      refine ob_det (c := .int .i64 (n : Nat)) ?_ ?_
      · intro ρ W hk hC
        simp only [seen, obOp, List.getD_cons_zero, List.getD_cons_succ]
        rintro h8 h119
        replace h8 : ρ (.tmp 8) = .int .i64 (n : Nat) := h8.trans rfl
        refine ⟨fun _ => ?_, fun hn => absurd h119 hn⟩
        exact rel_value (by simp [go_sem, h8]) hC
      refine ob_det (c := .int .i64 (lm : Nat)) ?_ ?_
      · intro ρ W hk hC
        simp only [seen, obOp, List.getD_cons_zero, List.getD_cons_succ]
        rintro h136 h119
        refine ⟨fun _ => ?_, fun hn => absurd h119 hn⟩
        exact rel_value (by simp [go_sem, h136, hk.const, hsub, hwm]) hC
      refine ob_det (c := .pointer (some ⟨b, off + lm * 3, none⟩)) ?_ ?_
      · intro ρ W hk hC
        simp only [seen, obOp, List.getD_cons_zero, List.getD_cons_succ]
        rintro h135 h137 h119
        refine ⟨fun _ => ?_, fun hn => absurd h119 hn⟩
        exact rel_value (by simp [go_sem, h135, h137, hml]) hC
      refine ob_det (c := .pointer (some ⟨b, off + lm * 3 + 2, none⟩)) ?_ ?_
      · intro ρ W hk hC
        simp only [seen, obOp, List.getD_cons_zero, List.getD_cons_succ]
        rintro h138 h119
        refine ⟨fun _ => ?_, fun hn => absurd h119 hn⟩
        exact rel_value (by simp [go_sem, h138]) hC
      refine ob_det (c := .int .i64 yc) ?_ ?_
      · intro ρ W hk hC
        simp only [seen, obOp, List.getD_cons_zero, List.getD_cons_succ]
        rintro h139 h119
        refine ⟨fun _ => ?_, fun hn => absurd h119 hn⟩
        exact rel_value (by simp [go_sem, h139, y2 W hC]) hC
      refine ob_det (c := .agg #[.int .i64 ya, .int .i64 yc]) ?_ ?_
      · intro ρ W hk hC
        simp only [seen, obOp, List.getD_cons_zero, List.getD_cons_succ]
        rintro h133 h140 h119
        refine ⟨fun _ => ?_, fun hn => absurd h119 hn⟩
        exact rel_value (by simp [go_sem, h133, h140]) hC
      refine ob_det (c := .bool false) ?_ ?_
      · intro ρ W hk hC
        simp only [seen, obOp, List.getD_cons_zero, List.getD_cons_succ]
        rintro h126 h141 h119
        refine ⟨fun _ => ?_, fun hn => absurd h119 hn⟩
        exact rel_value (by simp [go_sem, h126, h141, f2]) hC
      refine ob_det (c := .bool false) ?_ ?_
      · intro ρ W hk hC
        simp only [seen, obOp, List.getD_cons_zero, List.getD_cons_succ]
        rintro h119 h142
        exact rel_value (by simp [go_sem, h119, h142, hk.const]) hC
      intro vs11 w11 hC11
      simp only [endSeen, List.getD_cons_zero]
      intro h143
      simp only [writeAll, List.setIfInBounds_toArray, List.set_cons_zero, List.set_cons_succ, h143]
      clear x0 x1 y0 y2 s0 s1 j0 j1 q0 q1 q2 d1 d2 f1 f2
      have HD9 := Lib.hid (show ClB X w11 from HX9.out.step hC11)
      go_wp2_with fail
      go_loopw [9] (fun c wv => ∃ k : Nat, 1 ≤ k ∧ k ≤ n ∧ c = .int .i64 k ∧ Hid (ClB X wv) ∧ Hid (∀ (j : Nat) (x : Stp), j + 1 < k → xs[j + 1]? = some x → sigIx L x.s x.i < 0)) (fun c _ => n - (intOf c).toNat)
      case atStart => exact ⟨1, Nat.le_refl _, by omega, rfl, HD9, Lib.hid (fun j x hj => absurd hj (by omega))⟩
      case round =>
      obtain ⟨k, hk1, hk, rfl, HBk, HK⟩ := hrel
      obtain ⟨wk, hwk⟩ : ∃ wk, wk = wr := ⟨_, rfl⟩
      subst hwk
      by_cases hkn : k < n
      case neg =>
        obtain rfl : k = n := by omega
        obtain rfl : r = 0 := HRR.out.2 ⟨⟨by rw [← HQ.out.2.2.2.1]; omega, by rw [← HQ.out.2.2.2.1]; omega⟩, fun x h => by
          rw [HXY.out.1] at h
          cases h
          simp only [HSE.out.1.1, HSE.out.1.2], fun x h => by
          rw [← HQ.out.2.2.2.1, HLM.out, Nat.add_sub_cancel, HXY.out.2.1] at h
          cases h
          simp only [HSE.out.2.1, HSE.out.2.2], HQ.out.2.1.symm, HQ.out.2.2.1.symm, HEC.out.2.2.2.2.symm, fun j x h => HK.out j x (by rw [HQ.out.2.2.2.1]; exact (List.getElem?_eq_some_iff.1 h).1) h⟩
        go_wp2
        go_ret
        exact ⟨rfl, bchain HX.out.1 HBk.out⟩
      obtain ⟨y, hy0⟩ : ∃ y, xs[k]? = some y := ⟨_, List.getElem?_eq_getElem (by rw [← HQ.out.2.2.2.1]; omega)⟩
      have HY := Lib.hid hy0
      have hBk := bchain HX.out.1 HBk.out
      obtain ⟨ya, yb, yc⟩ := y
      have y0 : ∀ V', ClB wk V' → V'.cell? ⟨b, off + k * 3, none⟩ = some (.int .i64 ya) := fun V' h => ((bchain hBk h).cell (p := ⟨b, off + k * 3, none⟩) HXY.out.2.2.1).trans (HXY.out.2.2.2 k _ hy0 0 _ rfl)
      have y1 : ∀ V', ClB wk V' → V'.cell? ⟨b, off + k * 3 + 1, none⟩ = some (.int .i64 yb) := fun V' h => ((bchain hBk h).cell (p := ⟨b, off + k * 3 + 1, none⟩) HXY.out.2.2.1).trans (HXY.out.2.2.2 k _ hy0 1 _ rfl)
      have q2 : ∀ V', ClB wk V' → V'.cell? ⟨w.heap.size + 1, 2, none⟩ = some (.slice (some ⟨b, off, none⟩) n cap) := fun V' h => (HX.out.2 V' (bchain HBk.out h)).2.1.2.2
      have HBX := Lib.hid ((HX.out.2 wk HBk.out).1)
      have hsg := fun V' (h : ClB wk V') => HSIG.out ya yb V' (bchain hBk h)
      obtain ⟨z, hz⟩ : ∃ z, z = sigIx L ya yb := ⟨_, rfl⟩
      rw [← hz] at hsg
      have HSG := Lib.hid hsg
      have HZ := Lib.hid hz
      clear hsg hz hy0 hBk
      go_upto_region 16 with fail
      by_cases hz0 : 0 ≤ z
      · obtain rfl : r = 110 := HRR.out.1 fun h => by
          have := h.2.2.2.2.2.2 (k - 1) _ (by rw [Nat.sub_add_cancel hk1]; exact HY.out)
          dsimp only at this
          rw [← HZ.out] at this
          omega
        have dz := hz0
        focus
          refine wp_region_rel_below [([(3, none)], none), ([(4, none)], none), ([(150, some 0)], none), ([(9, none)], none), ([(151, some 1), (152, some 0)], none), ([(153, some 0)], none), ([(154, some 0)], none), ([(4, none)], none), ([(156, some 0)], none), ([(9, none)], none), ([(157, some 1), (158, some 0)], none), ([(159, some 0)], none), ([(160, some 0)], none), ([(155, some 6), (161, some 0)], none), ([(149, some 13), (162, some 0)], none), ([(163, some 0)], none)] [(0, 164)] (by kernel_rfl) (by kernel_rfl) ?_
          refine ob_det (c := .agg #[.slice a0 L.secs.length p0, .slice (some ⟨sb, so, none⟩) L.sigs.length p1, .slice (some ⟨eb, eo, none⟩) L.exits.length p2, .slice a3 L.flanks.length p3, .int .i64 L.t0, .int .i64 L.t1, .int .i64 L.t2, .int .i64 L.t3, .int .i64 L.t4, .int .i64 L.t5, .int .i64 L.t6]) ?_ ?_
          · intro ρ W hk hC
            simp only [seen, obOp]
            rintro h3
            replace h3 : ρ (.tmp 3) = .pointer (some ⟨w.heap.size, 0, none⟩) := h3.trans rfl
            exact rel_value (runLoad h3 (HBX.out.below hC)) hC
          refine ob_det (c := .pointer (some ⟨w.heap.size + 1, 2, none⟩)) ?_ ?_
          · intro ρ W hk hC
            simp only [seen, obOp]
            rintro h4
            replace h4 : ρ (.tmp 4) = .pointer (some ⟨w.heap.size + 1, 0, none⟩) := h4.trans rfl
            exact rel_value (by simp [go_sem, h4]) hC
          refine ob_det (c := .slice (some ⟨b, off, none⟩) n cap) ?_ ?_
          · intro ρ W hk hC
            simp only [seen, obOp, List.getD_cons_zero]
            rintro h150
            exact rel_value (by simp [go_sem, h150, q2 W hC]) hC
          refine ob_det (c := .int .i64 (k : Nat)) ?_ ?_
          · intro ρ W hk hC
            simp only [seen, obOp]
            rintro h9
            replace h9 : ρ (.tmp 9) = .int .i64 (k : Nat) := h9.trans rfl
            exact rel_value (by simp [go_sem, h9]) hC
          refine ob_det (c := .pointer (some ⟨b, off + k * 3, none⟩)) ?_ ?_
          · intro ρ W hk hC
            simp only [seen, obOp, List.getD_cons_zero, List.getD_cons_succ]
            rintro h151 h152
            exact rel_value (by simp [go_sem, h151, h152, hkn]) hC
          refine ob_det (c := .pointer (some ⟨b, off + k * 3, none⟩)) ?_ ?_
          · intro ρ W hk hC
            simp only [seen, obOp, List.getD_cons_zero]
            rintro h153
            exact rel_value (by simp [go_sem, h153]) hC
          refine ob_det (c := .int .i64 ya) ?_ ?_
          · intro ρ W hk hC
            simp only [seen, obOp, List.getD_cons_zero]
            rintro h154
            exact rel_value (by simp [go_sem, h154, y0 W hC]) hC
          refine ob_det (c := .pointer (some ⟨w.heap.size + 1, 2, none⟩)) ?_ ?_
          · intro ρ W hk hC
            simp only [seen, obOp]
            rintro h4
            replace h4 : ρ (.tmp 4) = .pointer (some ⟨w.heap.size + 1, 0, none⟩) := h4.trans rfl
            exact rel_value (by simp [go_sem, h4]) hC
          refine ob_det (c := .slice (some ⟨b, off, none⟩) n cap) ?_ ?_
          · intro ρ W hk hC
            simp only [seen, obOp, List.getD_cons_zero]
            rintro h156
            exact rel_value (by simp [go_sem, h156, q2 W hC]) hC
          refine ob_det (c := .int .i64 (k : Nat)) ?_ ?_
          · intro ρ W hk hC
            simp only [seen, obOp]
            rintro h9
            replace h9 : ρ (.tmp 9) = .int .i64 (k : Nat) := h9.trans rfl
            exact rel_value (by simp [go_sem, h9]) hC
          refine ob_det (c := .pointer (some ⟨b, off + k * 3, none⟩)) ?_ ?_
          · intro ρ W hk hC
            simp only [seen, obOp, List.getD_cons_zero, List.getD_cons_succ]
            rintro h157 h158
            exact rel_value (by simp [go_sem, h157, h158, hkn]) hC
          refine ob_det (c := .pointer (some ⟨b, off + k * 3 + 1, none⟩)) ?_ ?_
          · intro ρ W hk hC
            simp only [seen, obOp, List.getD_cons_zero]
            rintro h159
            exact rel_value (by simp [go_sem, h159]) hC
          refine ob_det (c := .int .i64 yb) ?_ ?_
          · intro ρ W hk hC
            simp only [seen, obOp, List.getD_cons_zero]
            rintro h160
            exact rel_value (by simp [go_sem, h160, y1 W hC]) hC
          refine ob_det (c := .agg #[.int .i64 ya, .int .i64 yb]) ?_ ?_
          · intro ρ W hk hC
            simp only [seen, obOp, List.getD_cons_zero, List.getD_cons_succ]
            rintro h155 h161
            exact rel_value (by simp [go_sem, h155, h161]) hC
          refine ob_det (c := .int .i64 z) ?_ ?_
          · intro ρ W hk hC
            simp only [seen, obOp, List.getD_cons_zero, List.getD_cons_succ]
            rintro h149 h162
            exact rel_call (f := 30) (args := #[.agg #[.slice a0 L.secs.length p0, .slice (some ⟨sb, so, none⟩) L.sigs.length p1, .slice (some ⟨eb, eo, none⟩) L.exits.length p2, .slice a3 L.flanks.length p3, .int .i64 L.t0, .int .i64 L.t1, .int .i64 L.t2, .int .i64 L.t3, .int .i64 L.t4, .int .i64 L.t5, .int .i64 L.t6], .agg #[.int .i64 ya, .int .i64 yb]]) (by simp [go_sem, h149, h162, hk.func]) hC (HSG.out W hC)
          refine ob_det (c := .bool true) ?_ ?_
          · intro ρ W hk hC
            simp only [seen, obOp, List.getD_cons_zero]
            rintro h163
            exact rel_value (by simp [go_sem, h163, hk.const, dz]) hC
          intro vs5 w5 hC5
          simp only [endSeen, List.getD_cons_zero]
          intro h164
          simp only [writeAll, List.setIfInBounds_toArray, List.set_cons_zero, List.set_cons_succ, h164]
          go_wp2
          go_ret
          exact ⟨rfl, bchain HX.out.1 (bchain HBk.out hC5)⟩
      · have dz := hz0
        focus
          refine wp_region_rel_below [([(3, none)], none), ([(4, none)], none), ([(150, some 0)], none), ([(9, none)], none), ([(151, some 1), (152, some 0)], none), ([(153, some 0)], none), ([(154, some 0)], none), ([(4, none)], none), ([(156, some 0)], none), ([(9, none)], none), ([(157, some 1), (158, some 0)], none), ([(159, some 0)], none), ([(160, some 0)], none), ([(155, some 6), (161, some 0)], none), ([(149, some 13), (162, some 0)], none), ([(163, some 0)], none)] [(0, 164)] (by kernel_rfl) (by kernel_rfl) ?_
          refine ob_det (c := .agg #[.slice a0 L.secs.length p0, .slice (some ⟨sb, so, none⟩) L.sigs.length p1, .slice (some ⟨eb, eo, none⟩) L.exits.length p2, .slice a3 L.flanks.length p3, .int .i64 L.t0, .int .i64 L.t1, .int .i64 L.t2, .int .i64 L.t3, .int .i64 L.t4, .int .i64 L.t5, .int .i64 L.t6]) ?_ ?_
          · intro ρ W hk hC
            simp only [seen, obOp]
            rintro h3
            replace h3 : ρ (.tmp 3) = .pointer (some ⟨w.heap.size, 0, none⟩) := h3.trans rfl
            exact rel_value (runLoad h3 (HBX.out.below hC)) hC
          refine ob_det (c := .pointer (some ⟨w.heap.size + 1, 2, none⟩)) ?_ ?_
          · intro ρ W hk hC
            simp only [seen, obOp]
            rintro h4
            replace h4 : ρ (.tmp 4) = .pointer (some ⟨w.heap.size + 1, 0, none⟩) := h4.trans rfl
            exact rel_value (by simp [go_sem, h4]) hC
          refine ob_det (c := .slice (some ⟨b, off, none⟩) n cap) ?_ ?_
          · intro ρ W hk hC
            simp only [seen, obOp, List.getD_cons_zero]
            rintro h150
            exact rel_value (by simp [go_sem, h150, q2 W hC]) hC
          refine ob_det (c := .int .i64 (k : Nat)) ?_ ?_
          · intro ρ W hk hC
            simp only [seen, obOp]
            rintro h9
            replace h9 : ρ (.tmp 9) = .int .i64 (k : Nat) := h9.trans rfl
            exact rel_value (by simp [go_sem, h9]) hC
          refine ob_det (c := .pointer (some ⟨b, off + k * 3, none⟩)) ?_ ?_
          · intro ρ W hk hC
            simp only [seen, obOp, List.getD_cons_zero, List.getD_cons_succ]
            rintro h151 h152
            exact rel_value (by simp [go_sem, h151, h152, hkn]) hC
          refine ob_det (c := .pointer (some ⟨b, off + k * 3, none⟩)) ?_ ?_
          · intro ρ W hk hC
            simp only [seen, obOp, List.getD_cons_zero]
            rintro h153
            exact rel_value (by simp [go_sem, h153]) hC
          refine ob_det (c := .int .i64 ya) ?_ ?_
          · intro ρ W hk hC
            simp only [seen, obOp, List.getD_cons_zero]
            rintro h154
            exact rel_value (by simp [go_sem, h154, y0 W hC]) hC
          refine ob_det (c := .pointer (some ⟨w.heap.size + 1, 2, none⟩)) ?_ ?_
          · intro ρ W hk hC
            simp only [seen, obOp]
            rintro h4
            replace h4 : ρ (.tmp 4) = .pointer (some ⟨w.heap.size + 1, 0, none⟩) := h4.trans rfl
            exact rel_value (by simp [go_sem, h4]) hC
          refine ob_det (c := .slice (some ⟨b, off, none⟩) n cap) ?_ ?_
          · intro ρ W hk hC
            simp only [seen, obOp, List.getD_cons_zero]
            rintro h156
            exact rel_value (by simp [go_sem, h156, q2 W hC]) hC
          refine ob_det (c := .int .i64 (k : Nat)) ?_ ?_
          · intro ρ W hk hC
            simp only [seen, obOp]
            rintro h9
            replace h9 : ρ (.tmp 9) = .int .i64 (k : Nat) := h9.trans rfl
            exact rel_value (by simp [go_sem, h9]) hC
          refine ob_det (c := .pointer (some ⟨b, off + k * 3, none⟩)) ?_ ?_
          · intro ρ W hk hC
            simp only [seen, obOp, List.getD_cons_zero, List.getD_cons_succ]
            rintro h157 h158
            exact rel_value (by simp [go_sem, h157, h158, hkn]) hC
          refine ob_det (c := .pointer (some ⟨b, off + k * 3 + 1, none⟩)) ?_ ?_
          · intro ρ W hk hC
            simp only [seen, obOp, List.getD_cons_zero]
            rintro h159
            exact rel_value (by simp [go_sem, h159]) hC
          refine ob_det (c := .int .i64 yb) ?_ ?_
          · intro ρ W hk hC
            simp only [seen, obOp, List.getD_cons_zero]
            rintro h160
            exact rel_value (by simp [go_sem, h160, y1 W hC]) hC
          refine ob_det (c := .agg #[.int .i64 ya, .int .i64 yb]) ?_ ?_
          · intro ρ W hk hC
            simp only [seen, obOp, List.getD_cons_zero, List.getD_cons_succ]
            rintro h155 h161
            exact rel_value (by simp [go_sem, h155, h161]) hC
          refine ob_det (c := .int .i64 z) ?_ ?_
          · intro ρ W hk hC
            simp only [seen, obOp, List.getD_cons_zero, List.getD_cons_succ]
            rintro h149 h162
            exact rel_call (f := 30) (args := #[.agg #[.slice a0 L.secs.length p0, .slice (some ⟨sb, so, none⟩) L.sigs.length p1, .slice (some ⟨eb, eo, none⟩) L.exits.length p2, .slice a3 L.flanks.length p3, .int .i64 L.t0, .int .i64 L.t1, .int .i64 L.t2, .int .i64 L.t3, .int .i64 L.t4, .int .i64 L.t5, .int .i64 L.t6], .agg #[.int .i64 ya, .int .i64 yb]]) (by simp [go_sem, h149, h162, hk.func]) hC (HSG.out W hC)
          refine ob_det (c := .bool false) ?_ ?_
          · intro ρ W hk hC
            simp only [seen, obOp, List.getD_cons_zero]
            rintro h163
            exact rel_value (by simp [go_sem, h163, hk.const, dz]) hC
          intro vs5 w5 hC5
          simp only [endSeen, List.getD_cons_zero]
          intro h164
          simp only [writeAll, List.setIfInBounds_toArray, List.set_cons_zero, List.set_cons_succ, h164]
          go_wp2
          go_roundw
          case rel => exact ⟨k + 1, by omega, by omega, by go_num, Lib.hid (HBk.out.step hC5), Lib.hid (fun j x hj h => by
            by_cases e : j + 1 = k
            · rw [e, HY.out] at h
              cases h
              dsimp only
              rw [← HZ.out]
              omega
            · exact HK.out j x (by omega) h)⟩
          case measure => simp [intOf]; omega
end
theorem rIs11_any (L : Lay) (P : Where) (sg ex : Int) (A V : Option Addr) (cap vcap : Nat) (xs : List Stp) (vs : List Int) (w : World) (hL : LayAt w P L) (hA : At w 3 Stp.enc A xs) (hx : xs.length ≤ 1000)
    (hV : At w 1 intEnc V vs) (hv : vs.length ≤ 9223372036854775807) :
    Calls Tryz.prog 9 #[L.val P, .agg #[.int .i64 sg, .int .i64 ex, .slice A xs.length cap], .slice V vs.length vcap] w fun e w' => e = .returned (.bool (decide (routeN L sg ex xs vs = 0))) ∧ Below w.heap.size w w' := by
  have hc := fun X (hX : Below w.heap.size w X) => rCheck11_any L P sg ex A V cap vcap xs vs X (hL.below hX) (hA.below hX) hx (hV.below hX) hv
  generalize routeN L sg ex xs vs = r at hc ⊢
  obtain ⟨len, hlen⟩ : ∃ len, len = xs.length := ⟨_, rfl⟩
  obtain ⟨vn, hvn⟩ : ∃ vn, vn = vs.length := ⟨_, rfl⟩
  rw [← hlen, ← hvn] at hc
  rw [← hlen, ← hvn]
  obtain ⟨a0, a1, a2, a3, p0, p1, p2, p3⟩ := P
  unfold Lay.val at hc ⊢
  have HC := Lib.hid hc
  clear hc hL hA hx hV hv hlen hvn
  go_enter Tryz.func9, Tryz.ntmps9
  go_wp2_with fail
  (with_reducible refine (HC.out _ (bchain bself bself)).mono ?_)
  rintro e w1 ⟨rfl, b1⟩
  have HB1 := Lib.hid (bnew (bnew b1))
  clear b1
  go_wp2
  go_ret
  exact ⟨by first | rfl | (apply ret_bool; rw [Bool.eq_iff_iff]; simp), HB1.out⟩
end Go.Proofs.YtpcojaoeahdgcaaGreatDoor
