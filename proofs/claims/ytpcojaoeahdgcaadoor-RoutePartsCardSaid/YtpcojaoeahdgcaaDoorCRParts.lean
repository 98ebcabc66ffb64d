/-
  The walk of RouteParts.
-/
import Derived.Test.YtpcojaoeahdgcaaDoorM7
import Derived.Deep.RegionHeld3

namespace Go.Proofs.YtpcojaoeahdgcaaDoor
open Go.RowKit Go.Shelf

theorem eqQ_stpI (x0 x1 x2 y0 y1 y2 : Int) (w : World) : (Op.equalIn 10000 43 (.agg #[.int .i64 x0, .int .i64 x1, .int .i64 x2]) (.agg #[.int .i64 y0, .int .i64 y1, .int .i64 y2])).run Tryd.prog w = .ok (decide (x0 = y0 ∧ x1 = y1 ∧ x2 = y2)) w := by
  have h := eqQ_step ⟨x0, x1, x2⟩ ⟨y0, y1, y2⟩ w
  dsimp only at h
  rw [h]
  simp only [Stp.mk.injEq]
attribute [local go_sem ↓ high] eqQ_stpI
set_option maxRecDepth 100000 in
set_option maxHeartbeats 16000000 in
theorem routeParts_walk (L : Lay) (P : Where) (sg ex : Int) (A : Option Addr) (cap : Nat) (xs : List Stp) (sg' ex' : Int) (A' : Option Addr) (cap' : Nat) (ys : List Stp) (w : World) (hL : LayAt w P L) (hA : At w 3 Stp.enc A xs) (hl : xs.length ≤ cap) (hm : cap ≤ 9223372036854775807) (hA' : At w 3 Stp.enc A' ys) (hl' : ys.length ≤ cap') (hm' : cap' ≤ 9223372036854775807) (KE : Kinds w ∧ JEnd w) :
    Calls Tryd.prog 5 #[L.val P, .agg #[.int .i64 sg, .int .i64 ex, .slice A xs.length cap], .agg #[.int .i64 sg', .int .i64 ex', .slice A' ys.length cap']] w fun e w' => e = .returned (.bool true) ∧ Below w.heap.size w w' := by
  have hgx := fun X (hX : Below w.heap.size w X) => great11_any L P sg ex A xs.length cap X (hL.below hX) (Nat.le_trans hl hm)
  have hgy := fun X (hX : Below w.heap.size w X) => great11_any L P sg' ex' A' ys.length cap' X (hL.below hX) (Nat.le_trans hl' hm')
  have hix := fun X (hX : Below w.heap.size w X) (hlt : xs.length ≤ 30) => ris_any L P sg ex A none cap 0 xs [] X (hL.below hX) (KE.1.below hX) (KE.2.below hX) (hA.below hX) hl hm (by omega) (.inl rfl) (by simp) (by omega)
  have hiy := fun X (hX : Below w.heap.size w X) (hlt : ys.length ≤ 30) => ris_any L P sg' ex' A' none cap' 0 ys [] X (hL.below hX) (KE.1.below hX) (KE.2.below hX) (hA'.below hX) hl' hm' (by omega) (.inl rfl) (by simp) (by omega)
  have hwk := fun X (hX : Below w.heap.size w X) => wakes11_any X (KE.1.below hX) (KE.2.below hX)
  obtain ⟨qx, hqx⟩ : ∃ q, q = decide (routeN L sg ex xs [] = 0) := ⟨_, rfl⟩
  obtain ⟨qy, hqy⟩ : ∃ q, q = decide (routeN L sg' ex' ys [] = 0) := ⟨_, rfl⟩
  obtain ⟨n, hn⟩ : ∃ n, n = xs.length := ⟨_, rfl⟩
  obtain ⟨n', hn'⟩ : ∃ n', n' = ys.length := ⟨_, rfl⟩
  rw [← hqx] at hix
  rw [← hqy] at hiy
  simp only [List.length_nil] at hix hiy
  rw [← hn] at hgx hix hl
  rw [← hn'] at hgy hiy hl'
  rw [← hn, ← hn']
  obtain ⟨a0, a1, a2, a3, p0, p1, p2, p3⟩ := P
  unfold Lay.val at hgx hgy hix hiy ⊢
  have HGX := Lib.hid hgx
  have HGY := Lib.hid hgy
  have HIX := Lib.hid hix
  have HIY := Lib.hid hiy
  have HWK := Lib.hid hwk
  have HQ := Lib.hid (⟨hqx, hqy, hn, hn'⟩ : _ ∧ _ ∧ _ ∧ _)
  have HA := Lib.hid (⟨hA, hA', hL⟩ : _ ∧ _ ∧ _)
  have m0 : L.secs.length ≤ 9223372036854775807 := Nat.le_trans hL.l0.1 hL.l0.2
  clear hgx hgy hix hiy hwk hqx hqy hn hn' hA hA' hL KE
  go_enter Tryd.func5, Tryd.ntmps5
  go_wp2_with fail
  obtain ⟨X, hX⟩ : ∃ X, X = ((w.alloc (.cells #[.slice a0 L.secs.length p0, .slice a1 L.sigs.length p1, .slice a2 L.exits.length p2, .slice a3 L.flanks.length p3, .int .i64 L.t0, .int .i64 L.t1, .int .i64 L.t2, .int .i64 L.t3, .int .i64 L.t4, .int .i64 L.t5, .int .i64 L.t6] 29)).alloc (.cells #[.int .i64 sg, .int .i64 ex, .slice A n cap] 32)).alloc (.cells #[.int .i64 sg', .int .i64 ex', .slice A' n' cap'] 32) := ⟨_, rfl⟩
  have hB : Below w.heap.size w X := by rw [hX]; exact bchain (bchain bself bself) bself
  have hBL : BoxL X w.heap.size L ⟨a0, a1, a2, a3, p0, p1, p2, p3⟩ := by rw [hX]; exact ((BoxL.make (L := L) (p := ⟨a0, a1, a2, a3, p0, p1, p2, p3⟩) _ rfl).below bself).below bself
  have hz : (∀ o, X.cell? ⟨w.heap.size + 1, o, none⟩ = (#[.int .i64 sg, .int .i64 ex, .slice A n cap] : Array Value)[o]?) ∧ ∀ o, X.cell? ⟨w.heap.size + 1 + 1, o, none⟩ = (#[.int .i64 sg', .int .i64 ex', .slice A' n' cap'] : Array Value)[o]? := by
    refine ⟨fun o => ?_, fun o => ?_⟩
    · rw [hX]; simp [go_sem]
    · rw [hX]; simp [go_sem]
  have hsz : X.heap.size = w.heap.size + 3 := by rw [hX]; simp
  have hall : ∀ V, ClB X V → BoxL V w.heap.size L ⟨a0, a1, a2, a3, p0, p1, p2, p3⟩ ∧ (V.cell? ⟨w.heap.size + 1, 0, none⟩ = some (.int .i64 sg) ∧ V.cell? ⟨w.heap.size + 1, 1, none⟩ = some (.int .i64 ex) ∧ V.cell? ⟨w.heap.size + 1, 2, none⟩ = some (.slice A n cap)) ∧ (V.cell? ⟨w.heap.size + 1 + 1, 0, none⟩ = some (.int .i64 sg') ∧ V.cell? ⟨w.heap.size + 1 + 1, 1, none⟩ = some (.int .i64 ex') ∧ V.cell? ⟨w.heap.size + 1 + 1, 2, none⟩ = some (.slice A' n' cap')) ∧ w.heap.size + 1 < V.heap.size ∧ w.heap.size + 1 + 1 < V.heap.size := fun V hC => by
    have hs := hC.size
    have g1 : ∀ o, V.cell? ⟨w.heap.size + 1, o, none⟩ = X.cell? ⟨w.heap.size + 1, o, none⟩ := fun o => hC.cell (p := ⟨w.heap.size + 1, o, none⟩) (by rw [hsz]; dsimp only; omega)
    have g2 : ∀ o, V.cell? ⟨w.heap.size + 1 + 1, o, none⟩ = X.cell? ⟨w.heap.size + 1 + 1, o, none⟩ := fun o => hC.cell (p := ⟨w.heap.size + 1 + 1, o, none⟩) (by rw [hsz]; dsimp only; omega)
    exact ⟨hBL.below hC, ⟨(g1 0).trans (hz.1 0), (g1 1).trans (hz.1 1), (g1 2).trans (hz.1 2)⟩, ⟨(g2 0).trans (hz.2 0), (g2 1).trans (hz.2 1), (g2 2).trans (hz.2 2)⟩, by omega, by omega⟩
  have HX := Lib.hid (⟨hB, hall⟩ : _ ∧ _)
  have hxe : X = X := rfl
  rw [← hX]
  clear hX hB hBL hz hsz hall hxe
  (with_reducible refine (HGX.out X HX.out.1).mono ?_)
  rintro e w1 ⟨g, rfl, hf1, b1⟩
  have HB1 := Lib.hid (⟨b1, hf1⟩ : _ ∧ _)
  clear b1 hf1
  cases g with
  | true =>
    go_wp2_with fail
    (with_reducible refine (HWK.out _ (bchain HX.out.1 HB1.out.1)).mono ?_)
    rintro e w9 ⟨rfl, b9⟩
    have HB9 := Lib.hid (bchain (bchain HX.out.1 HB1.out.1) b9)
    clear b9
    go_wp2
    go_ret
    exact ⟨rfl, HB9.out⟩
  | false =>
  obtain ⟨hbx, ⟨s0, s1, s2⟩, ⟨t0, t1, t2⟩, l1, l2⟩ := HX.out.2 w1 HB1.out.1
  obtain ⟨c0, c1, c2, c3, c4, c5, c6, c7, c8, c9, c10⟩ := hbx.cells
  have lg := hbx.1
  dsimp only at c0 c1 c2 c3
  clear hbx
  go_wp2_with fail
  (with_reducible refine (HGY.out w1 (bchain HX.out.1 HB1.out.1)).mono ?_)
  rintro e w2 ⟨g, rfl, hf2, b2⟩
  have HB2 := Lib.hid (⟨bchain HB1.out.1 b2, hf2⟩ : _ ∧ _)
  clear b2 hf2 c0 c1 c2 c3 c4 c5 c6 c7 c8 c9 c10 lg s0 s1 s2 t0 t1 t2 l1 l2
  cases g with
  | true =>
    go_wp2_with fail
    (with_reducible refine (HWK.out _ (bchain HX.out.1 HB2.out.1)).mono ?_)
    rintro e w9 ⟨rfl, b9⟩
    have HB9 := Lib.hid (bchain (bchain HX.out.1 HB2.out.1) b9)
    clear b9
    go_wp2
    go_ret
    exact ⟨rfl, HB9.out⟩
  | false =>
  have hn30 : n ≤ 30 := (HB1.out.2 (by first | exact rfl | trivial)).2
  have hn30' : n' ≤ 30 := (HB2.out.2 (by first | exact rfl | trivial)).2
  obtain ⟨hbx, ⟨s0, s1, s2⟩, ⟨t0, t1, t2⟩, l1, l2⟩ := HX.out.2 w2 HB2.out.1
  obtain ⟨c0, c1, c2, c3, c4, c5, c6, c7, c8, c9, c10⟩ := hbx.cells
  have lg := hbx.1
  dsimp only at c0 c1 c2 c3
  clear hbx
  go_wp2_with fail
  (with_reducible refine (HIX.out w2 (bchain HX.out.1 HB2.out.1) hn30).mono ?_)
  rintro e w3 ⟨rfl, b3⟩
  have HB3 := Lib.hid (bchain HB2.out.1 b3)
  clear b3 c0 c1 c2 c3 c4 c5 c6 c7 c8 c9 c10 lg s0 s1 s2 t0 t1 t2 l1 l2
  cases qx with
  | false =>
    go_wp2_with fail
    (with_reducible refine (HWK.out _ (bchain HX.out.1 HB3.out)).mono ?_)
    rintro e w9 ⟨rfl, b9⟩
    have HB9 := Lib.hid (bchain (bchain HX.out.1 HB3.out) b9)
    clear b9
    go_wp2
    go_ret
    exact ⟨rfl, HB9.out⟩
  | true =>
  obtain ⟨hbx, ⟨s0, s1, s2⟩, ⟨t0, t1, t2⟩, l1, l2⟩ := HX.out.2 w3 HB3.out
  obtain ⟨c0, c1, c2, c3, c4, c5, c6, c7, c8, c9, c10⟩ := hbx.cells
  have lg := hbx.1
  dsimp only at c0 c1 c2 c3
  clear hbx
  go_wp2_with fail
  (with_reducible refine (HIY.out w3 (bchain HX.out.1 HB3.out) hn30').mono ?_)
  rintro e w4 ⟨rfl, b4⟩
  have HB4 := Lib.hid (bchain HB3.out b4)
  clear b4 c0 c1 c2 c3 c4 c5 c6 c7 c8 c9 c10 lg s0 s1 s2 t0 t1 t2 l1 l2
  cases qy with
  | false =>
    go_wp2_with fail
    (with_reducible refine (HWK.out _ (bchain HX.out.1 HB4.out)).mono ?_)
    rintro e w9 ⟨rfl, b9⟩
    have HB9 := Lib.hid (bchain (bchain HX.out.1 HB4.out) b9)
    clear b9
    go_wp2
    go_ret
    exact ⟨rfl, HB9.out⟩
  | true =>
  obtain ⟨hbx, ⟨s0, s1, s2⟩, ⟨t0, t1, t2⟩, l1, l2⟩ := HX.out.2 w4 HB4.out
  clear hbx
  by_cases hsg : sg = sg'
  case neg =>
    have dsg : (sg == sg') = false := by simpa using hsg
    have dsg2 : decide (sg = sg') = false := decide_eq_false hsg
    go_wp2_with fail
    (with_reducible refine (HWK.out _ (bchain HX.out.1 HB4.out)).mono ?_)
    rintro e w9 ⟨rfl, b9⟩
    have HB9 := Lib.hid (bchain (bchain HX.out.1 HB4.out) b9)
    clear b9
    go_wp2
    go_ret
    exact ⟨rfl, HB9.out⟩
  subst hsg
  have HB5 := HB4
  have mn : n ≤ 9223372036854775807 := by omega
  have mn' : n' ≤ 9223372036854775807 := by omega
  go_wp2_with fail
  clear s0 s1 s2 t0 t1 t2 l1 l2
  go_loopw [7] (fun c wv => ∃ k : Nat, k ≤ n ∧ k ≤ n' ∧ c = .int .i64 k ∧ Hid (Below X.heap.size X wv) ∧ Hid (∀ j, j < k → xs[j]? = ys[j]?)) (fun c _ => n - (intOf c).toNat)
  case atStart => exact ⟨0, Nat.zero_le _, Nat.zero_le _, rfl, HB5, Lib.hid (fun j hj => absurd hj (Nat.not_lt_zero _))⟩
  case round =>
    obtain ⟨k, hk, hk', rfl, HBr, HJ⟩ := hrel
    obtain ⟨hbx, ⟨s0, s1, s2⟩, ⟨t0, t1, t2⟩, l1, l2⟩ := HX.out.2 wr HBr.out
    by_cases h1 : k < n
    case neg =>
      have d1 : decide ((k : Int) < (n : Int)) = false := decide_eq_false (by omega)
      have d2 : ((k : Int) == (n : Int)) = true := by rw [beq_iff_eq]; omega
      clear hbx
      go_wp2_with fail
      go_region
      clear s0 s1 s2 t0 t1 t2 l1 l2
      obtain ⟨V, hV⟩ : ∃ V, V = wr.drew := ⟨_, rfl⟩
      have HBV := Lib.hid (show Below X.heap.size X V by rw [hV]; exact HBr.out.drew)
      rw [← hV]
      clear hV
      obtain ⟨hbx, ⟨s0, s1, s2⟩, ⟨t0, t1, t2⟩, l1, l2⟩ := HX.out.2 V HBV.out
      clear hbx
      go_wp2_with fail
      (with_reducible refine (HWK.out _ (bchain HX.out.1 HBV.out)).mono ?_)
      rintro e w9 ⟨rfl, b9⟩
      have HB9 := Lib.hid (bchain (bchain HX.out.1 HBV.out) b9)
      clear b9
      go_wp2
      go_ret
      exact ⟨rfl, HB9.out⟩
    have d1 : decide ((k : Int) < (n : Int)) = true := decide_eq_true (by omega)
    by_cases h2 : k < n'
    case neg =>
      have d2 : decide ((k : Int) < (n' : Int)) = false := decide_eq_false (by omega)
      have d3 : ((k : Int) == (n' : Int)) = true := by rw [beq_iff_eq]; omega
      have d4 : ((k : Int) == (n : Int)) = false := by rw [beq_eq_false_iff_ne]; omega
      clear hbx
      go_wp2_with fail
      go_region
      clear s0 s1 s2 t0 t1 t2 l1 l2
      obtain ⟨V, hV⟩ : ∃ V, V = wr.drew := ⟨_, rfl⟩
      have HBV := Lib.hid (show Below X.heap.size X V by rw [hV]; exact HBr.out.drew)
      rw [← hV]
      clear hV
      obtain ⟨hbx, ⟨s0, s1, s2⟩, ⟨t0, t1, t2⟩, l1, l2⟩ := HX.out.2 V HBV.out
      clear hbx
      go_wp2_with fail
      (with_reducible refine (HWK.out _ (bchain HX.out.1 HBV.out)).mono ?_)
      rintro e w9 ⟨rfl, b9⟩
      have HB9 := Lib.hid (bchain (bchain HX.out.1 HBV.out) b9)
      clear b9
      go_wp2
      go_ret
      exact ⟨rfl, HB9.out⟩
    have d2 : decide ((k : Int) < (n' : Int)) = true := decide_eq_true (by omega)
    have hBw := bchain HX.out.1 HBr.out
    obtain ⟨b, off, hAe, hrow⟩ := HA.out.1.get (j := k) (by rw [← HQ.out.2.2.1]; exact h1)
    subst hAe
    obtain ⟨b', off', hAe', hrow'⟩ := HA.out.2.1.get (j := k) (by rw [← HQ.out.2.2.2]; exact h2)
    subst hAe'
    obtain ⟨x, hx⟩ : ∃ x, xs[k]? = some x := ⟨_, List.getElem?_eq_getElem (by rw [← HQ.out.2.2.1]; exact h1)⟩
    obtain ⟨y, hy⟩ : ∃ y, ys[k]? = some y := ⟨_, List.getElem?_eq_getElem (by rw [← HQ.out.2.2.2]; exact h2)⟩
    have HXY := Lib.hid (⟨hx, hy⟩ : _ ∧ _)
    obtain ⟨xa, xb, xc⟩ := x
    obtain ⟨ya, yb, yc⟩ := y
    have x0 : wr.cell? ⟨b, off + k * 3, none⟩ = some (.int .i64 xa) := (hBw.cell (p := ⟨b, off + k * 3, none⟩) hrow.1).trans (hrow.2 k _ hx 0 _ rfl)
    have x1 : wr.cell? ⟨b, off + k * 3 + 1, none⟩ = some (.int .i64 xb) := (hBw.cell (p := ⟨b, off + k * 3 + 1, none⟩) hrow.1).trans (hrow.2 k _ hx 1 _ rfl)
    have x2 : wr.cell? ⟨b, off + k * 3 + 2, none⟩ = some (.int .i64 xc) := (hBw.cell (p := ⟨b, off + k * 3 + 2, none⟩) hrow.1).trans (hrow.2 k _ hx 2 _ rfl)
    have y0 : wr.cell? ⟨b', off' + k * 3, none⟩ = some (.int .i64 ya) := (hBw.cell (p := ⟨b', off' + k * 3, none⟩) hrow'.1).trans (hrow'.2 k _ hy 0 _ rfl)
    have y1 : wr.cell? ⟨b', off' + k * 3 + 1, none⟩ = some (.int .i64 yb) := (hBw.cell (p := ⟨b', off' + k * 3 + 1, none⟩) hrow'.1).trans (hrow'.2 k _ hy 1 _ rfl)
    have y2 : wr.cell? ⟨b', off' + k * 3 + 2, none⟩ = some (.int .i64 yc) := (hBw.cell (p := ⟨b', off' + k * 3 + 2, none⟩) hrow'.1).trans (hrow'.2 k _ hy 2 _ rfl)
    have lb := Nat.lt_of_lt_of_le hrow.1 hBw.size
    have lb' := Nat.lt_of_lt_of_le hrow'.1 hBw.size
    by_cases hE : xa = ya ∧ xb = yb ∧ xc = yc
    case pos =>
      obtain ⟨rfl, rfl, rfl⟩ := hE
      clear hbx hrow hrow' hx hy hBw
      go_wp2_with fail
      go_region
      go_wp2
      go_roundw
      case rel => exact ⟨k + 1, by omega, by omega, by go_num, Lib.hid HBr.out.drew, Lib.hid (fun j hj => by
        by_cases e : j = k
        · subst e; exact HXY.out.1.trans HXY.out.2.symm
        · exact HJ.out j (by omega))⟩
      case measure => simp [intOf]; omega
    have hne : (⟨xa, xb, xc⟩ : Stp) ≠ ⟨ya, yb, yc⟩ := fun h => by cases h; exact hE ⟨rfl, rfl, rfl⟩
    obtain ⟨m, c, e1, e2, hml, hmc, hck, hai, hbi, ho⟩ := route_parts (of_decide_eq_true HQ.out.1.symm) (of_decide_eq_true HQ.out.2.1.symm) hx hy HJ.out hne
    dsimp only at e1 e2 hai hbi ho
    subst e1 e2 hai hbi
    obtain ⟨sb, so, hSe, hsr⟩ := HA.out.2.2.secs.get hml
    dsimp only at hSe
    subst hSe
    have kk0 : w.cell? ⟨sb, so + m * 11, none⟩ = some (.int .u8 2) := by
      have := hsr.2 m c hmc 0 _ rfl
      rw [hck] at this
      exact this
    have hE2 : decide (xc = yc) = false := decide_eq_false ho
    have hE3 : (xc == yc) = false := by simpa using ho
    have d5 : ((k : Int) == (n : Int)) = false := by rw [beq_eq_false_iff_ne]; omega
    have d6 : ((k : Int) == (n' : Int)) = false := by rw [beq_eq_false_iff_ne]; omega
    have HRW := Lib.hid (⟨hrow, hrow', hx, hy, kk0, hsr.1⟩ : _ ∧ _ ∧ _ ∧ _ ∧ _ ∧ _)
    clear hbx hrow hrow' hx hy hBw hE kk0 hsr hmc hck hne
    go_wp2_with fail
    go_region
    clear s0 s1 s2 t0 t1 t2 l1 l2 x0 x1 x2 y0 y1 y2 lb lb'
    obtain ⟨V, hV⟩ : ∃ V, V = wr.drew := ⟨_, rfl⟩
    have HBV := Lib.hid (show Below X.heap.size X V by rw [hV]; exact HBr.out.drew)
    rw [← hV]
    clear hV
    obtain ⟨hbx, ⟨s0, s1, s2⟩, ⟨t0, t1, t2⟩, l1, l2⟩ := HX.out.2 V HBV.out
    have hBv := bchain HX.out.1 HBV.out
    have x0 : V.cell? ⟨b, off + k * 3, none⟩ = some (.int .i64 (m : Nat)) := (hBv.cell (p := ⟨b, off + k * 3, none⟩) HRW.out.1.1).trans (HRW.out.1.2 k _ HRW.out.2.2.1 0 _ rfl)
    have x1 : V.cell? ⟨b, off + k * 3 + 1, none⟩ = some (.int .i64 0) := (hBv.cell (p := ⟨b, off + k * 3 + 1, none⟩) HRW.out.1.1).trans (HRW.out.1.2 k _ HRW.out.2.2.1 1 _ rfl)
    have x2 : V.cell? ⟨b, off + k * 3 + 2, none⟩ = some (.int .i64 xc) := (hBv.cell (p := ⟨b, off + k * 3 + 2, none⟩) HRW.out.1.1).trans (HRW.out.1.2 k _ HRW.out.2.2.1 2 _ rfl)
    have y0 : V.cell? ⟨b', off' + k * 3, none⟩ = some (.int .i64 (m : Nat)) := (hBv.cell (p := ⟨b', off' + k * 3, none⟩) HRW.out.2.1.1).trans (HRW.out.2.1.2 k _ HRW.out.2.2.2.1 0 _ rfl)
    have y1 : V.cell? ⟨b', off' + k * 3 + 1, none⟩ = some (.int .i64 0) := (hBv.cell (p := ⟨b', off' + k * 3 + 1, none⟩) HRW.out.2.1.1).trans (HRW.out.2.1.2 k _ HRW.out.2.2.2.1 1 _ rfl)
    have y2 : V.cell? ⟨b', off' + k * 3 + 2, none⟩ = some (.int .i64 yc) := (hBv.cell (p := ⟨b', off' + k * 3 + 2, none⟩) HRW.out.2.1.1).trans (HRW.out.2.1.2 k _ HRW.out.2.2.2.1 2 _ rfl)
    have kk : V.cell? ⟨sb, so + m * 11, none⟩ = some (.int .u8 2) := (hBv.cell (p := ⟨sb, so + m * 11, none⟩) HRW.out.2.2.2.2.2).trans HRW.out.2.2.2.2.1
    have lb := Nat.lt_of_lt_of_le HRW.out.1.1 hBv.size
    have lb' := Nat.lt_of_lt_of_le HRW.out.2.1.1 hBv.size
    have lsb := Nat.lt_of_lt_of_le HRW.out.2.2.2.2.2 hBv.size
    have c0 := hbx.cells.1
    have lg := hbx.1
    dsimp only at c0
    have f1 : decide ((m : Int) < 0) = false := decide_eq_false (by omega)
    have f2 : decide ((L.secs.length : Int) ≤ (m : Int)) = false := decide_eq_false (by omega)
    have f3 : decide (L.secs.length ≤ m) = false := decide_eq_false (by omega)
    have n1 := World.new_ne V _ s2
    have n2 := World.new_ne V _ t2
    have n3 := World.new_ne V _ x0
    have n4 := World.new_ne V _ y0
    have n5 := World.new_ne V _ c0
    have n6 := World.new_ne V _ kk
    clear hbx hBv
    go_wp2_with fail
    go_region_held3 (fun w' => w'.cell? ⟨w.heap.size + 1, 2, none⟩ = some (.slice (some ⟨b, off, none⟩) n cap) ∧ w'.cell? ⟨w.heap.size + 1 + 1, 2, none⟩ = some (.slice (some ⟨b', off', none⟩) n' cap') ∧ w'.cell? ⟨b, off + k * 3, none⟩ = some (.int .i64 (m : Nat)) ∧ w'.cell? ⟨b, off + k * 3 + 1, none⟩ = some (.int .i64 0) ∧ w'.cell? ⟨b, off + k * 3 + 2, none⟩ = some (.int .i64 xc) ∧ w'.cell? ⟨b', off' + k * 3, none⟩ = some (.int .i64 (m : Nat)) ∧ w'.cell? ⟨b', off' + k * 3 + 1, none⟩ = some (.int .i64 0) ∧ w'.cell? ⟨b', off' + k * 3 + 2, none⟩ = some (.int .i64 yc)) (go_keep) (fail)
    all_goals
      clear s0 s1 s2 t0 t1 t2 x0 x1 x2 y0 y1 y2
      go_wp2_with fail
      (with_reducible refine (HWK.out _ ((bchain (bchain HX.out.1 HBV.out) (bchain bself bself)).drew)).mono ?_)
      rintro e w9 ⟨rfl, b9⟩
      have HB9 := Lib.hid (bchain ((bchain (bchain HX.out.1 HBV.out) (bchain bself bself)).drew) b9)
      clear b9
      go_wp2
      go_ret
      exact ⟨rfl, HB9.out⟩
end Go.Proofs.YtpcojaoeahdgcaaDoor

/-
  RouteParts: two Route paths of one signal, of which neither is the beginning of the other one, part in a section that both enter by a point's toe, and leave by unlike ports.
  Conditions: port.kinds and port.none (and join.end, where it is listed) start as the program's text lays them (the tied card; it ties them to the pruned copy that the seat holds).
-/
namespace Go.Proofs.YtpcojaoeahdgcaaDoor
open Go.RowKit Go.WideShapes Go.ChangeShapes Go.ChangeAt Go.WideMaps Go.WideElems Go.Joins Go.Deep

set_option maxRecDepth 100000 in
theorem routeParts_lifted (os : Os) (started : os.Started) (H : Type) (enc : TypeId × Value → H) :
    ReturnsInHanded {} Tryd.checked os 5 .any (fun w args => (Rows.routePartsSpec.pre enc Tryd.prog Tryd.f5 [] false w args ∧ laidMetH Tryd.prog laidL w) ∧ sizedMet enc Tryd.prog Tryd.f5 (OpenSpec.ofChange Rows.routePartsSpec) false w args)
      (Rows.routePartsSpec.post enc Tryd.prog Tryd.f5 false true false false) := by
  refine law_lifted_laid (C := Tryd.checked) (tb := 4) ownP started (by kernel_rfl) Tryd.func5
    (ChangeSpec.witness_shaped (enc := enc) (C := Tryd.checked) (os := os) (X := fun w _ => laidMetH Tryd.prog laidL w) false (World.doorLaid Tryd.prog 400 os) #[.agg #[.slice none 0 0, .slice none 0 0, .slice none 0 0, .slice none 0 0, .int .i64 0, .int .i64 0, .int .i64 0, .int .i64 0, .int .i64 0, .int .i64 0, .int .i64 0], .agg #[.int .i64 0, .int .i64 0, .slice none 0 0], .agg #[.int .i64 0, .int .i64 0, .slice none 0 0]] 8 rfl (World.shaped_of_RefB (by kernel_rfl) (by kernel_rfl)) (by kernel_rfl) (by kernel_rfl) (by kernel_rfl) (door_met os _))
    laidP (by kernel_rfl) rfl rfl Tryd.underlying4 ?_
  intro W base args ds p hval0 hA0 hlt hL
  have hval : ∀ (j : Nat) t v, Tryd.f5.params[j]? = some t → args[j]? = some v → Value.okWide Tryd.prog W .any base t v := hval0
  have hA : DataW.TrodAll enc Tryd.prog W 0 (fun _ => true) true Tryd.f5.params.toList args.toList ds p := hA0
  clear hval0 hA0
  rw [Tryd.params5] at hA hval
  obtain ⟨vs⟩ := args
  dsimp only at hA
  obtain ⟨v0, vs0, d0, ds0, p0, q0, rfl, rfl, rfl, h0, hA⟩ := trodAll_cons hA
  obtain ⟨v1, vs1, d1, ds1, p1, q1, rfl, rfl, rfl, h1, hA⟩ := trodAll_cons hA
  obtain ⟨v2, vs2, d2, ds2, p2, q2, rfl, rfl, rfl, h2, hA⟩ := trodAll_cons hA
  obtain ⟨rfl, rfl, rfl⟩ := trodAll_nil hA
  obtain ⟨L0, w0, rfl, hl0⟩ := open_layout (hval 0 29 v0 rfl rfl) h0
  obtain ⟨sg1, ex1, A1, cap1, xs1, rfl, hA1, hl1, hm1⟩ := open_path (hval 1 32 v1 rfl rfl) h1
  obtain ⟨sg2, ex2, A2, cap2, xs2, rfl, hA2, hl2, hm2⟩ := open_path (hval 2 32 v2 rfl rfl) h2
  exact ⟨⟨rfl, rfl, rfl⟩, routeParts_walk L0 w0 sg1 ex1 A1 cap1 xs1 sg2 ex2 A2 cap2 xs2 W hl0 hA1 hl1 hm1 hA2 hl2 hm2 (kinds_of_laid hL)⟩

theorem routeParts_holds : Rows.RoutePartsSaid :=
  OpenClaim.holds_of_wide 5 Tryd.f5 rfl rfl rfl rfl rfl rfl rfl ⟨rfl, rfl, rfl, rfl, rfl⟩ rfl rfl rfl rfl rfl (by kernel_rfl) Tryd.func5 (by kernel_rfl)
    (of_decide_eq_true (by kernel_rfl)) (by unfold Func.isWrapper; first | (rw [if_pos (by decide +kernel)]; kernel_rfl) | (rw [if_neg (of_decide_eq_false (by kernel_rfl))]; exact ⟨rfl, rfl⟩))
    (fun os started H enc _ => routeParts_lifted os started H enc)

theorem routeParts_card : Rows.RoutePartsCardSaid :=
  Claim7.holds_tied_plain_at .later [] [.data, .data, .data] true (true, "cfff4adc463c6f9ce7949ac5343bd4b581054832799839b491415a10a7ea59f5") false
    routeParts_holds (fun _ h => by cases h) (by kernel_rfl) (fun _ h => by cases h) routeParts_row_tie rfl ⟨rfl, rfl⟩ (by kernel_rfl) rfl
    (fun f fn hf hfn => by
      obtain rfl : f = 5 := Option.some.inj ((show Tryd.prog.funcNamed "lockbar/lockbarlaw11.RouteParts" = some 5 by kernel_rfl).symm.trans hf) |>.symm
      obtain rfl : fn = Tryd.f5 := (Option.some.inj (Tryd.func5.symm.trans hfn)).symm
      exact ⟨by kernel_rfl, fun j t ht => by
        rw [Tryd.params5] at ht
        have hm : t ∈ [29, 32, 32] := by simpa using Array.mem_of_getElem? ht
        have hall : ([29, 32, 32].all fun u => !Tryd.prog.wantsStandIn u) = true := by kernel_rfl
        exact (show Tryd.prog.wantsStandIn t = false by simpa using List.all_eq_true.1 hall t hm)⟩)
    (by kernel_rfl)
#print axioms routeParts_card
end Go.Proofs.YtpcojaoeahdgcaaDoor
