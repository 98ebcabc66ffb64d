/-
  The walk of RoutePath.
-/
import Derived.Test.YtpcojaoeahdgcaaDoorM7

namespace Go.Proofs.YtpcojaoeahdgcaaDoor
open Go.RowKit Go.Shelf
attribute [local go_sem ↓ high] eqQ_portI

theorem eat_step {vs : List Int} {xs : List Stp} {i j : Nat} {x : Stp} (h : eat vs (xs.take i) = vs.drop j) (hx : xs[i]? = some x) : (∀ v, vs[j]? = some v → x.s = v → eat vs (xs.take (i + 1)) = vs.drop (j + 1)) ∧ ((∀ v, vs[j]? = some v → x.s ≠ v) → eat vs (xs.take (i + 1)) = vs.drop j) := by
  rw [eat_take hx, h]
  unfold eat1
  rw [List.head?_drop]
  refine ⟨fun v hv hs => ?_, fun hn => ?_⟩
  · rw [if_pos (by rw [hv, hs]), List.tail_drop]
  · rw [if_neg (fun he => hn x.s he rfl)]
set_option maxRecDepth 100000 in
set_option maxHeartbeats 32000000 in
theorem routePath_walk (L : Lay) (P : Where) (sg ex : Int) (A : Option Addr) (cap : Nat) (xs : List Stp) (V : Option Addr) (vcap : Nat) (vs : List Int) (w : World) (hL : LayAt w P L) (hA : At w 3 Stp.enc A xs) (hl : xs.length ≤ cap) (hm : cap ≤ 9223372036854775807) (hV : At w 1 intEnc V vs) (hv : vs.length ≤ vcap) (hvm : vcap ≤ 9223372036854775807) (KE : Kinds w ∧ JEnd w) :
    Calls Tryd.prog 3 #[L.val P, .agg #[.int .i64 sg, .int .i64 ex, .slice A xs.length cap], .slice V vs.length vcap] w fun e w' => e = .returned (.bool true) ∧ Below w.heap.size w w' := by
  have hgx := fun X (hX : Below w.heap.size w X) => great11_any L P sg ex A xs.length cap X (hL.below hX) (Nat.le_trans hl hm)
  have hix := fun X (hX : Below w.heap.size w X) (hlt : xs.length ≤ 30) => ris_any L P sg ex A V cap vcap xs vs X (hL.below hX) (KE.1.below hX) (KE.2.below hX) (hA.below hX) hl hm (by omega) (hV.below hX) hv hvm
  have hrt := fun X (hX : Below w.heap.size w X) => rTopoRight_any L P X (hL.below hX)
  have hwk := fun X (hX : Below w.heap.size w X) => wakes11_any X (KE.1.below hX) (KE.2.below hX)
  obtain ⟨qx, hqx⟩ : ∃ q, q = decide (routeN L sg ex xs vs = 0) := ⟨_, rfl⟩
  obtain ⟨qt, hqt⟩ : ∃ q, q = topoR L := ⟨_, rfl⟩
  obtain ⟨n, hn⟩ : ∃ n, n = xs.length := ⟨_, rfl⟩
  obtain ⟨vn, hvn⟩ : ∃ vn, vn = vs.length := ⟨_, rfl⟩
  rw [← hqx] at hix
  rw [← hqt] at hrt
  rw [← hn] at hgx hix hl
  rw [← hvn] at hix hv
  rw [← hn, ← hvn]
  have ms : L.sigs.length ≤ 9223372036854775807 := Nat.le_trans hL.l1.1 hL.l1.2
  have me : L.exits.length ≤ 9223372036854775807 := Nat.le_trans hL.l2.1 hL.l2.2
  have m0 : L.secs.length ≤ 9223372036854775807 := Nat.le_trans hL.l0.1 hL.l0.2
  obtain ⟨a0, a1, a2, a3, p0, p1, p2, p3⟩ := P
  unfold Lay.val at hgx hix hrt ⊢
  have HGX := Lib.hid hgx
  have HIX := Lib.hid hix
  have HRT := Lib.hid hrt
  have HWK := Lib.hid hwk
  have HQ := Lib.hid (⟨hqx, hqt, hn, hvn⟩ : _ ∧ _ ∧ _ ∧ _)
  have HA := Lib.hid (⟨hA, hV, hL⟩ : _ ∧ _ ∧ _)
  clear hgx hix hrt hwk hqx hqt hn hvn hA hV hL KE
  go_enter Tryd.func3, Tryd.ntmps3
  go_wp2_with fail
  obtain ⟨X, hX⟩ : ∃ X, X = (w.alloc (.cells #[.slice a0 L.secs.length p0, .slice a1 L.sigs.length p1, .slice a2 L.exits.length p2, .slice a3 L.flanks.length p3, .int .i64 L.t0, .int .i64 L.t1, .int .i64 L.t2, .int .i64 L.t3, .int .i64 L.t4, .int .i64 L.t5, .int .i64 L.t6] 29)).alloc (.cells #[.int .i64 sg, .int .i64 ex, .slice A n cap] 32) := ⟨_, rfl⟩
  have hB : Below w.heap.size w X := by rw [hX]; exact bchain bself bself
  have hBL : BoxL X w.heap.size L ⟨a0, a1, a2, a3, p0, p1, p2, p3⟩ := by rw [hX]; exact (BoxL.make (L := L) (p := ⟨a0, a1, a2, a3, p0, p1, p2, p3⟩) _ rfl).below bself
  have hz : ∀ o, X.cell? ⟨w.heap.size + 1, o, none⟩ = (#[.int .i64 sg, .int .i64 ex, .slice A n cap] : Array Value)[o]? := fun o => by rw [hX]; simp [go_sem]
  have hsz : X.heap.size = w.heap.size + 2 := by rw [hX]; simp
  have hall : ∀ V, ClB X V → BoxL V w.heap.size L ⟨a0, a1, a2, a3, p0, p1, p2, p3⟩ ∧ (V.cell? ⟨w.heap.size + 1, 0, none⟩ = some (.int .i64 sg) ∧ V.cell? ⟨w.heap.size + 1, 1, none⟩ = some (.int .i64 ex) ∧ V.cell? ⟨w.heap.size + 1, 2, none⟩ = some (.slice A n cap)) ∧ w.heap.size + 1 < V.heap.size ∧ w.heap.size + 1 < X.heap.size := fun V hC => by
    have hs := hC.size
    have g1 : ∀ o, V.cell? ⟨w.heap.size + 1, o, none⟩ = X.cell? ⟨w.heap.size + 1, o, none⟩ := fun o => hC.cell (p := ⟨w.heap.size + 1, o, none⟩) (by rw [hsz]; dsimp only; omega)
    exact ⟨hBL.below hC, ⟨(g1 0).trans (hz 0), (g1 1).trans (hz 1), (g1 2).trans (hz 2)⟩, by omega, by omega⟩
  have HX := Lib.hid (⟨hB, hall⟩ : _ ∧ _)
  rw [← hX]
  clear hX hB hBL hz hsz hall
  (with_reducible refine (HGX.out X HX.out.1).mono ?_)
  rintro e w1 ⟨g, rfl, hf1, b1⟩
  have HB1 := Lib.hid (⟨b1, hf1⟩ : _ ∧ _)
  clear b1 hf1
  cases g with
  | true =>
    go_wp2_with fail
    (with_reducible refine (HWK.out _ (bchain HX.out.1 HB1.out.1)).mono ?_)
    rintro e w9 ⟨rfl, b9⟩
    have HB9 := Lib.hid (bchain (bchain HX.out.1 HB1.out.1) b9)
    clear b9
    go_wp2
    go_ret
    exact ⟨rfl, HB9.out⟩
  | false =>
  have hn30 : n ≤ 30 := (HB1.out.2 (by first | exact rfl | trivial)).2
  have mv : vn ≤ 9223372036854775807 := by omega
  by_cases h2 : 10 < vn
  case pos =>
    have d2 : decide ((10 : Int) < (vn : Int)) = true := decide_eq_true (by omega)
    go_wp2_with fail
    (with_reducible refine (HWK.out _ (bchain HX.out.1 HB1.out.1)).mono ?_)
    rintro e w9 ⟨rfl, b9⟩
    have HB9 := Lib.hid (bchain (bchain HX.out.1 HB1.out.1) b9)
    clear b9
    go_wp2
    go_ret
    exact ⟨rfl, HB9.out⟩
  have d2 : decide ((10 : Int) < (vn : Int)) = false := decide_eq_false (by omega)
  obtain ⟨hbx, ⟨s0, s1, s2⟩, l1, _⟩ := HX.out.2 w1 HB1.out.1
  obtain ⟨c0, c1, c2, c3, c4, c5, c6, c7, c8, c9, c10⟩ := hbx.cells
  have lg := hbx.1
  dsimp only at c0 c1 c2 c3
  clear hbx
  go_wp2_with fail
  (with_reducible refine (HIX.out w1 (bchain HX.out.1 HB1.out.1) hn30).mono ?_)
  rintro e w2 ⟨rfl, b2⟩
  have HB2 := Lib.hid (bchain HB1.out.1 b2)
  clear b2 c0 c1 c2 c3 c4 c5 c6 c7 c8 c9 c10 lg s0 s1 s2 l1
  cases qx with
  | false =>
    go_wp2_with fail
    (with_reducible refine (HWK.out _ (bchain HX.out.1 HB2.out)).mono ?_)
    rintro e w9 ⟨rfl, b9⟩
    have HB9 := Lib.hid (bchain (bchain HX.out.1 HB2.out) b9)
    clear b9
    go_wp2
    go_ret
    exact ⟨rfl, HB9.out⟩
  | true =>
  obtain ⟨hargs, n1, m1, sp, ep, rfl, rfl, hsp, hep, hro⟩ := route_zero (of_decide_eq_true HQ.out.1.symm)
  have hn1 : n1 < L.sigs.length := by have := hargs.1.2; omega
  have hm1 : m1 < L.exits.length := by have := hargs.2.1.2; omega
  obtain rfl : qt = true := HQ.out.2.1.trans hargs.2.2.2.1
  have h12 : 1 ≤ n ∧ n ≤ 12 := by rw [HQ.out.2.2.1]; exact hro.1
  have HRO := Lib.hid (⟨hro, hargs⟩ : _ ∧ _)
  clear hro hargs
  have e1 : decide ((n1 : Int) < 0) = false := decide_eq_false (by omega)
  have e2 : decide ((L.sigs.length : Int) ≤ (n1 : Int)) = false := decide_eq_false (by omega)
  have e3 : decide (L.sigs.length ≤ n1) = false := decide_eq_false (by omega)
  have e4 : decide ((m1 : Int) < 0) = false := decide_eq_false (by omega)
  have e5 : decide ((L.exits.length : Int) ≤ (m1 : Int)) = false := decide_eq_false (by omega)
  have e6 : decide (L.exits.length ≤ m1) = false := decide_eq_false (by omega)
  have e7 : decide ((n : Int) < 1) = false := decide_eq_false (by omega)
  have e8 : decide ((12 : Int) < (n : Int)) = false := decide_eq_false (by omega)
  have e9 : decide (n < 1) = false := decide_eq_false (by omega)
  have e10 : decide (12 < n) = false := decide_eq_false (by omega)
  have mn : n ≤ 9223372036854775807 := by omega
  obtain ⟨hbx, ⟨s0, s1, s2⟩, l1, _⟩ := HX.out.2 w2 HB2.out
  obtain ⟨c0, c1, c2, c3, c4, c5, c6, c7, c8, c9, c10⟩ := hbx.cells
  have lg := hbx.1
  dsimp only at c0 c1 c2 c3
  clear hbx
  go_wp2_with fail
  (with_reducible refine (HRT.out w2 (bchain HX.out.1 HB2.out)).mono ?_)
  rintro e w3 ⟨rfl, b3⟩
  have HB3 := Lib.hid (bchain HB2.out b3)
  clear b3 c0 c1 c2 c3 c4 c5 c6 c7 c8 c9 c10 lg s0 s1 s2 l1
  obtain ⟨hbx, ⟨s0, s1, s2⟩, l1, _⟩ := HX.out.2 w3 HB3.out
  obtain ⟨c0, c1, c2, c3, c4, c5, c6, c7, c8, c9, c10⟩ := hbx.cells
  have lg := hbx.1
  dsimp only at c0 c1 c2 c3
  clear hbx
  have hB3 := bchain HX.out.1 HB3.out
  obtain ⟨gb, go, hGe, hgrow⟩ := HA.out.2.2.sigs.get hn1
  dsimp only at hGe
  subst hGe
  have y0 : w3.cell? ⟨gb, go + n1 * 2, none⟩ = some (.int .i64 sp.s) := (hB3.cell (p := ⟨gb, go + n1 * 2, none⟩) hgrow.1).trans (hgrow.2 n1 _ hsp 0 _ rfl)
  have y1 : w3.cell? ⟨gb, go + n1 * 2 + 1, none⟩ = some (.int .i64 sp.p) := (hB3.cell (p := ⟨gb, go + n1 * 2 + 1, none⟩) hgrow.1).trans (hgrow.2 n1 _ hsp 1 _ rfl)
  have lgb := Nat.lt_of_lt_of_le hgrow.1 hB3.size
  obtain ⟨sps, spp⟩ := sp
  dsimp only at y0 y1
  clear hgrow hB3
  go_wp2_with fail
  have hx30 : X.heap.size ≤ w3.heap.size := HB3.out.size
  obtain ⟨Y, hY⟩ : ∃ Y, Y = w3.alloc (.cells #[.int .i64 sps, .int .i64 spp] 39) := ⟨_, rfl⟩
  have hBY : Below X.heap.size X Y := by rw [hY]; exact bchain HB3.out bself
  have r0 : Y.cell? ⟨w3.heap.size, 0, none⟩ = some (.int .i64 sps) := by rw [hY]; simp [go_sem]
  have r1 : Y.cell? ⟨w3.heap.size, 1, none⟩ = some (.int .i64 spp) := by rw [hY]; simp [go_sem]
  have rf : ∀ o, Y.frozen? ⟨w3.heap.size, o, none⟩ = false := fun o => by rw [hY]; simp [go_sem]
  rw [← hY]
  generalize w3.heap.size = g8 at hx30 r0 r1 rf ⊢
  have HG8 := Lib.hid (⟨hBY, r0, r1, rf⟩ : _ ∧ _ ∧ _ ∧ _)
  clear hY hBY r0 r1 rf c0 c1 c2 c3 c4 c5 c6 c7 c8 c9 c10 lg s0 s1 s2 l1 y0 y1 lgb e1 e2 e3 e4 e5 e6 e7 e8 e9 e10
  go_loopw [9] (fun c wv => ∃ (k : Nat) (s q : Int), k ≤ n ∧ c = .int .i64 k ∧ Hid (Below X.heap.size X wv ∧ wv.cell? ⟨g8, 0, none⟩ = some (.int .i64 s) ∧ wv.cell? ⟨g8, 1, none⟩ = some (.int .i64 q) ∧ ∀ o, wv.frozen? ⟨g8, o, none⟩ = false) ∧ Hid (∀ x, xs[k]? = some x → s = x.s ∧ q = x.i)) (fun c _ => n - (intOf c).toNat)
  case atStart =>
    refine ⟨0, sps, spp, Nat.zero_le _, rfl, HG8, Lib.hid (fun x hx => ?_)⟩
    have := HRO.out.1.2.1 x hx
    cases x
    simpa using this
  case round =>
    obtain ⟨k, s, q, hk, rfl, HI, HE⟩ := hrel
    obtain ⟨ww, hww⟩ : ∃ ww, ww = wr := ⟨_, rfl⟩
    subst hww
    obtain ⟨hbx, ⟨s0, s1, s2⟩, l1, l1X⟩ := HX.out.2 ww HI.out.1
    by_cases hlt : k < n
    case pos =>
      obtain ⟨x, hx⟩ : ∃ x, xs[k]? = some x := ⟨_, List.getElem?_eq_getElem (by rw [← HQ.out.2.2.1]; exact hlt)⟩
      obtain ⟨rfl, rfl⟩ := HE.out x hx
      have hgo := (goes_iff L xs).1 HRO.out.1.2.2.2.1
      have hok := hgo.1 k x hx
      obtain ⟨m, c, hms, hml, hmc, hcm, hway, hin, hout⟩ := step_facts hok
      obtain ⟨xa, xb, xc⟩ := x
      dsimp only at hms hway hin hout
      subst hms
      have hBw := bchain HX.out.1 HI.out.1
      obtain ⟨b, off, hAe, hrow⟩ := HA.out.1.get (j := k) (by rw [← HQ.out.2.2.1]; exact hlt)
      subst hAe
      have x0 : ww.cell? ⟨b, off + k * 3, none⟩ = some (.int .i64 (m : Nat)) := (hBw.cell (p := ⟨b, off + k * 3, none⟩) hrow.1).trans (hrow.2 k _ hx 0 _ rfl)
      have x1 : ww.cell? ⟨b, off + k * 3 + 1, none⟩ = some (.int .i64 xb) := (hBw.cell (p := ⟨b, off + k * 3 + 1, none⟩) hrow.1).trans (hrow.2 k _ hx 1 _ rfl)
      have x2 : ww.cell? ⟨b, off + k * 3 + 2, none⟩ = some (.int .i64 xc) := (hBw.cell (p := ⟨b, off + k * 3 + 2, none⟩) hrow.1).trans (hrow.2 k _ hx 2 _ rfl)
      have lb := Nat.lt_of_lt_of_le hrow.1 hBw.size
      obtain ⟨sb, so, hSe, hsr⟩ := HA.out.2.2.secs.get hml
      dsimp only at hSe
      subst hSe
      have kk' : ww.cell? ⟨sb, so + m * 11, none⟩ = some (.int .u8 c.k) := (hBw.cell (p := ⟨sb, so + m * 11, none⟩) hsr.1).trans (hsr.2 m c hmc 0 _ rfl)
      have lsb := Nat.lt_of_lt_of_le hsr.1 hBw.size
      have l8 : g8 < ww.heap.size := World.block_lt_of_cell? _ _ HI.out.2.1
      have r0 := HI.out.2.1
      have r1 := HI.out.2.2.1
      have hwy := fun V => rWay_any c.k xb xc V
      rw [hway] at hwy
      generalize wayN c.k xb xc = wn at hwy
      have HWY := Lib.hid hwy
      have HXX := Lib.hid (⟨hx, hout, hsr, hrow⟩ : _ ∧ _ ∧ _ ∧ _)
      obtain ⟨c0, c1, c2, c3, c4, c5, c6, c7, c8, c9, c10⟩ := hbx.cells
      have lg := hbx.1
      dsimp only at c0 c1 c2 c3
      have d3 : decide ((m : Int) < 0) = false := decide_eq_false (by omega)
      have d4 : decide ((L.secs.length : Int) ≤ (m : Int)) = false := decide_eq_false (by omega)
      have d5 : decide (L.secs.length ≤ m) = false := decide_eq_false (by omega)
      obtain ⟨ck, hck⟩ : ∃ ck, ck = c.k := ⟨_, rfl⟩
      rw [← hck] at HWY kk'
      have KK := Lib.hid (⟨kk', lsb⟩ : _ ∧ _)
      clear hx hgo hok hmc hcm hway hin hout hrow hsr hbx hwy hBw kk' lsb hck
      go_wp2_with fail
      obtain ⟨Z, hZ⟩ : ∃ Z, Z = ww.alloc (.cells #[.int .i64 (m : Nat), .int .i64 xb, .int .i64 xc] 43) := ⟨_, rfl⟩
      have hZB : Below ww.heap.size ww Z := by rw [hZ]; exact bself
      have t0 : Z.cell? ⟨ww.heap.size, 0, none⟩ = some (.int .i64 (m : Nat)) := by rw [hZ]; simp [go_sem]
      have t1 : Z.cell? ⟨ww.heap.size, 1, none⟩ = some (.int .i64 xb) := by rw [hZ]; simp [go_sem]
      have t2 : Z.cell? ⟨ww.heap.size, 2, none⟩ = some (.int .i64 xc) := by rw [hZ]; simp [go_sem]
      have lz : ww.heap.size < Z.heap.size := by rw [hZ]; simp
      have hxw : X.heap.size ≤ ww.heap.size := HI.out.1.size
      rw [← hZ]
      have HZ := Lib.hid (⟨hZB, bchain HI.out.1 hZB⟩ : _ ∧ _)
      have hallZ : ∀ V, ClB Z V → (V.cell? ⟨ww.heap.size, 0, none⟩ = some (.int .i64 (m : Nat)) ∧ V.cell? ⟨ww.heap.size, 1, none⟩ = some (.int .i64 xb) ∧ V.cell? ⟨ww.heap.size, 2, none⟩ = some (.int .i64 xc)) ∧ (V.cell? ⟨g8, 0, none⟩ = some (.int .i64 (m : Nat)) ∧ V.cell? ⟨g8, 1, none⟩ = some (.int .i64 xb) ∧ ∀ o, V.frozen? ⟨g8, o, none⟩ = false) ∧ V.cell? ⟨sb, so + m * 11, none⟩ = some (.int .u8 ck) ∧ ww.heap.size < V.heap.size ∧ g8 < V.heap.size := fun V h => by
        have hb := bchain hZB h
        exact ⟨⟨(h.cell (p := ⟨ww.heap.size, 0, none⟩) lz).trans t0, (h.cell (p := ⟨ww.heap.size, 1, none⟩) lz).trans t1, (h.cell (p := ⟨ww.heap.size, 2, none⟩) lz).trans t2⟩, ⟨(hb.cell (p := ⟨g8, 0, none⟩) l8).trans r0, (hb.cell (p := ⟨g8, 1, none⟩) l8).trans r1, fun o => (hb.frozen (p := ⟨g8, o, none⟩) l8).trans (HI.out.2.2.2 o)⟩, (hb.cell (p := ⟨sb, so + m * 11, none⟩) KK.out.2).trans KK.out.1, Nat.lt_of_lt_of_le lz h.size, Nat.lt_of_lt_of_le l8 hb.size⟩
      have HZA := Lib.hid hallZ
      clear hZ hZB t0 t1 t2 lz hallZ r0 r1 l8 x0 x1 x2 lb c0 c1 c2 c3 c4 c5 c6 c7 c8 c9 c10 lg s0 s1 s2 l1 d3 d4 d5
      generalize ww.heap.size = g10 at HZA hxw ⊢
      have d0 : ∀ V', ClB Z V' → V'.cell? ⟨w.heap.size, 0, none⟩ = some (.slice (some ⟨sb, so, none⟩) L.secs.length p0) := fun V' h => (HX.out.2 V' (bchain HZ.out.2 h)).1.cells.1
      have u0 : ∀ V', ClB Z V' → V'.cell? ⟨g10, 0, none⟩ = some (.int .i64 (m : Nat)) := fun V' h => (HZA.out V' h).1.1
      have u1 : ∀ V', ClB Z V' → V'.cell? ⟨g10, 1, none⟩ = some (.int .i64 xb) := fun V' h => (HZA.out V' h).1.2.1
      have u2 : ∀ V', ClB Z V' → V'.cell? ⟨g10, 2, none⟩ = some (.int .i64 xc) := fun V' h => (HZA.out V' h).1.2.2
      have kk : ∀ V', ClB Z V' → V'.cell? ⟨sb, so + m * 11, none⟩ = some (.int .u8 ck) := fun V' h => (HZA.out V' h).2.2.1
      focus
        refine wp_region_rel_below [([(3, none)], none), ([(112, some 0)], none), ([(10, none)], none), ([(114, some 0)], none), ([(113, some 2), (115, some 0)], none), ([(116, some 0)], none), ([(117, some 0)], none), ([(10, none)], none), ([(119, some 0)], none), ([(10, none)], none), ([(121, some 0)], none), ([(118, some 4), (120, some 2), (122, some 0)], none), ([(123, some 0)], none), ([(111, some 0)], none), ([(111, some 1)], none), ([(124, some 1)], none), ([(125, some 1)], none)] [(0, 12), (1, 11)] (by kernel_rfl) (by kernel_rfl) ?_
        refine ob_det (c := .pointer (some ⟨w.heap.size, 0, none⟩)) ?_ ?_
        · intro ρ W hk hC
          simp only [seen, obOp]
          rintro h3
          replace h3 : ρ (.tmp 3) = .pointer (some ⟨w.heap.size, 0, none⟩) := h3.trans rfl
          exact rel_value (by simp [go_sem, h3]) hC
        refine ob_det (c := .slice (some ⟨sb, so, none⟩) L.secs.length p0) ?_ ?_
        · intro ρ W hk hC
          simp only [seen, obOp, List.getD_cons_zero]
          rintro h112
          exact rel_value (by simp [go_sem, h112, d0 W hC]) hC
        refine ob_det (c := .pointer (some ⟨g10, 0, none⟩)) ?_ ?_
        · intro ρ W hk hC
          simp only [seen, obOp]
          rintro h10
          replace h10 : ρ (.tmp 10) = .pointer (some ⟨g10, 0, none⟩) := h10.trans rfl
          exact rel_value (by simp [go_sem, h10]) hC
        refine ob_det (c := .int .i64 (m : Nat)) ?_ ?_
        · intro ρ W hk hC
          simp only [seen, obOp, List.getD_cons_zero]
          rintro h114
          exact rel_value (by simp [go_sem, h114, u0 W hC]) hC
        refine ob_det (c := .pointer (some ⟨sb, so + m * 11, none⟩)) ?_ ?_
        · intro ρ W hk hC
          simp only [seen, obOp, List.getD_cons_zero, List.getD_cons_succ]
          rintro h113 h115
          exact rel_value (by simp [go_sem, h113, h115, hml]) hC
        refine ob_det (c := .pointer (some ⟨sb, so + m * 11, none⟩)) ?_ ?_
        · intro ρ W hk hC
          simp only [seen, obOp, List.getD_cons_zero]
          rintro h116
          exact rel_value (by simp [go_sem, h116]) hC
        refine ob_det (c := .int .u8 ck) ?_ ?_
        · intro ρ W hk hC
          simp only [seen, obOp, List.getD_cons_zero]
          rintro h117
          exact rel_value (by simp [go_sem, h117, kk W hC]) hC
        refine ob_det (c := .pointer (some ⟨g10, 1, none⟩)) ?_ ?_
        · intro ρ W hk hC
          simp only [seen, obOp]
          rintro h10
          replace h10 : ρ (.tmp 10) = .pointer (some ⟨g10, 0, none⟩) := h10.trans rfl
          exact rel_value (by simp [go_sem, h10]) hC
        refine ob_det (c := .int .i64 xb) ?_ ?_
        · intro ρ W hk hC
          simp only [seen, obOp, List.getD_cons_zero]
          rintro h119
          exact rel_value (by simp [go_sem, h119, u1 W hC]) hC
        refine ob_det (c := .pointer (some ⟨g10, 2, none⟩)) ?_ ?_
        · intro ρ W hk hC
          simp only [seen, obOp]
          rintro h10
          replace h10 : ρ (.tmp 10) = .pointer (some ⟨g10, 0, none⟩) := h10.trans rfl
          exact rel_value (by simp [go_sem, h10]) hC
        refine ob_det (c := .int .i64 xc) ?_ ?_
        · intro ρ W hk hC
          simp only [seen, obOp, List.getD_cons_zero]
          rintro h121
          exact rel_value (by simp [go_sem, h121, u2 W hC]) hC
        refine ob_det (c := .tuple #[.int .i64 wn, .bool true]) ?_ ?_
        · intro ρ W hk hC
          simp only [seen, obOp, List.getD_cons_zero, List.getD_cons_succ]
          rintro h118 h120 h122
          exact rel_call (f := 11) (args := #[.int .u8 ck, .int .i64 xb, .int .i64 xc]) (by simp [go_sem, h118, h120, h122, hk.func]) hC (HWY.out W)
        refine ob_det (c := .tuple #[.int .i64 wn, .bool true]) ?_ ?_
        · intro ρ W hk hC
          simp only [seen, obOp, List.getD_cons_zero]
          rintro h123
          exact rel_value (by simp [go_sem, h123]) hC
        refine ob_det (c := .int .i64 wn) ?_ ?_
        · intro ρ W hk hC
          simp only [seen, obOp, List.getD_cons_zero]
          rintro h111
          exact rel_value (by simp [go_sem, h111]) hC
        refine ob_det (c := .bool true) ?_ ?_
        · intro ρ W hk hC
          simp only [seen, obOp, List.getD_cons_zero, List.getD_cons_succ]
          rintro h111
          exact rel_value (by simp [go_sem, h111]) hC
        refine ob_det (c := .int .i64 wn) ?_ ?_
        · intro ρ W hk hC
          simp only [seen, obOp, List.getD_cons_zero, List.getD_cons_succ]
          rintro h124
          exact rel_value (by simp [go_sem, h124]) hC
        refine ob_det (c := .bool true) ?_ ?_
        · intro ρ W hk hC
          simp only [seen, obOp, List.getD_cons_zero, List.getD_cons_succ]
          rintro h125
          exact rel_value (by simp [go_sem, h125]) hC
        intro vs5 w5 hC5
        simp only [endSeen, List.getD_cons_zero, List.getD_cons_succ]
        intro h12 h11
        simp only [writeAll, List.setIfInBounds_toArray, List.set_cons_zero, List.set_cons_succ, h11, h12]
        have HC5 := Lib.hid hC5
        clear hC5 d0 u0 u1 u2 kk h11 h12
        go_upto_region 14 with fail
        go_cut [137] (fun s w' => s = .bool false ∧ Hid (ClB Z w'))
        case first =>
          by_cases hk0 : k = 0
          · have f1 : decide ((0 : Int) < (k : Int)) = false := decide_eq_false (by omega)
            have f2 : decide (0 < k) = false := decide_eq_false (by omega)
            go_wp2_with fail
            all_goals first | (exfalso; omega) | (go_meet; exact ⟨rfl, HC5⟩)
          · have f1 : decide ((0 : Int) < (k : Int)) = true := decide_eq_true (by omega)
            have f2 : decide (0 < k) = true := decide_eq_true (by omega)
            have hsg := HRO.out.1.2.2.2.2.2.2 (k - 1) _ (by rw [Nat.sub_add_cancel (by omega)]; exact HXX.out.1)
            dsimp only at hsg
            have hcall := fun V' (h : ClB X V') => rSignal_any L ⟨(some ⟨sb, so, none⟩), (some ⟨gb, go, none⟩), a2, a3, p0, p1, p2, p3⟩ (m : Int) xb V' (HA.out.2.2.below (bchain HX.out.1 h))
            generalize sigIx L (m : Int) xb = z at hsg hcall
            unfold Lay.val at hcall
            have HCL := Lib.hid hcall
            have hz0 : decide (0 ≤ z) = false := decide_eq_false (by omega)
            clear hcall
            obtain ⟨⟨t0, t1, t2⟩, ⟨r0, r1, rf⟩, kk, l10, l8⟩ := HZA.out w5 HC5.out
            obtain ⟨hbx, ⟨s0, s1, s2⟩, l1, l1X⟩ := HX.out.2 w5 (bchain HZ.out.2 HC5.out)
            obtain ⟨c0, c1, c2, c3, c4, c5, c6, c7, c8, c9, c10⟩ := hbx.cells
            have lg := hbx.1
            dsimp only at c0 c1 c2 c3
            clear hbx
            go_wp2_with fail
            have hcl := HCL.out w5 (bchain HZ.out.2 HC5.out)
            (with_reducible refine hcl.mono ?_)
            clear hcl
            rintro e w6 ⟨rfl, b6⟩
            have HC6 := Lib.hid (bchain HC5.out b6)
            clear b6 t0 t1 t2 r0 r1 rf kk l10 l8 s0 s1 s2 l1 c0 c1 c2 c3 c4 c5 c6 c7 c8 c9 c10 lg
            go_wp2_with fail
            all_goals first | (exfalso; omega) | (go_meet; exact ⟨rfl, HC6⟩)
        case rest =>
        obtain ⟨rfl, HCC⟩ := hcut
        go_wp2_with fail
        have mk : k ≤ 9223372036854775807 := by omega
        go_loopw [13] (fun c wv => ∃ i : Nat, i ≤ k ∧ c = .int .i64 i ∧ Hid (ClB Z wv)) (fun c _ => k - (intOf c).toNat)
        case atStart => exact ⟨0, Nat.zero_le _, rfl, HCC⟩
        case round =>
        obtain ⟨i, hik, rfl, HRI⟩ := hrel
        obtain ⟨wi, hwi⟩ : ∃ wi, wi = wr := ⟨_, rfl⟩
        subst hwi
        obtain ⟨⟨t0, t1, t2⟩, ⟨r0, r1, rf⟩, kk, l10, l8⟩ := HZA.out wi HRI.out
        obtain ⟨hbx, ⟨s0, s1, s2⟩, l1, l1X⟩ := HX.out.2 wi (bchain HZ.out.2 HRI.out)
        by_cases hik2 : i < k
        case pos =>
          have hBi := bchain HX.out.1 (bchain HZ.out.2 HRI.out)
          obtain ⟨y, hy⟩ : ∃ y, xs[i]? = some y := ⟨_, List.getElem?_eq_getElem (by rw [← HQ.out.2.2.1]; omega)⟩
          have hne := ((nodup_iff xs).1 (of_decide_eq_true HRO.out.1.2.2.2.2.2.1).1) k _ HXX.out.1 i y hik2 hy
          obtain ⟨ya, yb, yc⟩ := y
          dsimp only at hne
          have y0 : wi.cell? ⟨b, off + i * 3, none⟩ = some (.int .i64 ya) := (hBi.cell (p := ⟨b, off + i * 3, none⟩) HXX.out.2.2.2.1).trans (HXX.out.2.2.2.2 i _ hy 0 _ rfl)
          have lb := Nat.lt_of_lt_of_le HXX.out.2.2.2.1 hBi.size
          have hin2 : i < n := by omega
          have f1 : (ya == (m : Int)) = false := by simpa using hne
          have f2 : decide (ya = (m : Int)) = false := decide_eq_false hne
          clear hbx hBi hy
          go_wp2_with fail
          go_region
          go_wp2
          go_roundw
          case rel => exact ⟨i + 1, by omega, by go_num, Lib.hid HRI.out.drew⟩
          case measure => simp [intOf]; omega
        obtain rfl : i = k := by omega
        have hBi := bchain HX.out.1 (bchain HZ.out.2 HRI.out)
        obtain ⟨es0, hes, hAt, hov⟩ := HA.out.2.2.exits
        have hlen2 : es0.length = L.exits.length := by rw [← hes, List.length_map]
        obtain ⟨eb, eo, hEe, herow⟩ := hAt.get (j := m1) (by omega)
        obtain ⟨y, hy⟩ : ∃ y, es0[m1]? = some y := ⟨es0[m1]'(by omega), List.getElem?_eq_getElem (by omega)⟩
        have hye : y.1 = ep := by
          have : L.exits[m1]? = some y.1 := by rw [← hes, List.getElem?_map, hy]; rfl
          rw [hep] at this
          exact (Option.some.inj this).symm
        have j0' : wi.cell? ⟨eb, eo + m1 * 3, none⟩ = some (.int .i64 y.1.s) := (hBi.cell (p := ⟨eb, eo + m1 * 3, none⟩) herow.1).trans (herow.2 m1 y hy 0 _ rfl)
        have j1' : wi.cell? ⟨eb, eo + m1 * 3 + 1, none⟩ = some (.int .i64 y.1.p) := (hBi.cell (p := ⟨eb, eo + m1 * 3 + 1, none⟩) herow.1).trans (herow.2 m1 y hy 1 _ rfl)
        have j2' : wi.cell? ⟨eb, eo + m1 * 3 + 2, none⟩ = some y.2 := (hBi.cell (p := ⟨eb, eo + m1 * 3 + 2, none⟩) herow.1).trans (herow.2 m1 y hy 2 _ rfl)
        obtain ⟨oA, oc, ove, hvl, hvm2, hva⟩ := hov y (List.mem_of_getElem? hy)
        rw [ove] at j2'
        dsimp only at hEe
        subst hEe
        have leb := Nat.lt_of_lt_of_le herow.1 hBi.size
        obtain ⟨⟨es, eq, ov⟩, yv⟩ := y
        dsimp only at hye j0' j1' j2' hvl hva
        subst hye
        obtain ⟨ol, hol⟩ : ∃ ol, ol = ov.length := ⟨_, rfl⟩
        rw [← hol] at j2' hvl
        have mol : ol ≤ 9223372036854775807 := by have : oc ≤ 9223372036854775807 := hvm2; omega
        have HEC := Lib.hid (⟨j0', j1', j2', leb, hva, hol⟩ : _ ∧ _ ∧ _ ∧ _ ∧ _ ∧ _)
        obtain ⟨c0, c1, c2, c3, c4, c5, c6, c7, c8, c9, c10⟩ := hbx.cells
        have lg := hbx.1
        dsimp only at c0 c1 c2 c3
        clear hbx hes hAt hov hlen2 herow hy ove hvl hvm2 hva hol hBi
        go_wp2_with fail
        clear t0 t1 t2 r0 r1 rf kk l10 l8 s0 s1 s2 l1 c0 c1 c2 c3 c4 c5 c6 c7 c8 c9 c10 lg j0' j1' j2' leb
        go_loopw [15] (fun c wv => ∃ j : Nat, j ≤ ol ∧ c = .int .i64 j ∧ Hid (ClB wi wv)) (fun c _ => ol - (intOf c).toNat)
        case atStart => exact ⟨0, Nat.zero_le _, rfl, Lib.hid (Below.refl _ _)⟩
        case round =>
        obtain ⟨j, hjo, rfl, HRJ⟩ := hrel
        obtain ⟨wj, hwj⟩ : ∃ wj, wj = wr := ⟨_, rfl⟩
        subst hwj
        have HCJ := Lib.hid (bchain HRI.out HRJ.out)
        obtain ⟨⟨t0, t1, t2⟩, ⟨r0, r1, rf⟩, kk, l10, l8⟩ := HZA.out wj HCJ.out
        by_cases hjo2 : j < ol
        case pos =>
          obtain ⟨ob, oo, hOe, horow⟩ := HEC.out.2.2.2.2.1.get (j := j) (by rw [← HEC.out.2.2.2.2.2]; exact hjo2)
          subst hOe
          obtain ⟨y, hy⟩ : ∃ y, ov[j]? = some y := ⟨_, List.getElem?_eq_getElem (by rw [← HEC.out.2.2.2.2.2]; exact hjo2)⟩
          have hne := (of_decide_eq_true HRO.out.1.2.2.2.2.2.1).2 _ (List.mem_of_getElem? HXX.out.1) y (List.mem_of_getElem? hy)
          obtain ⟨ya, yb, yc⟩ := y
          dsimp only at hne
          have hBj := bchain HX.out.1 (bchain HZ.out.2 HCJ.out)
          have y0 : wj.cell? ⟨ob, oo + j * 3, none⟩ = some (.int .i64 ya) := (hBj.cell (p := ⟨ob, oo + j * 3, none⟩) horow.1).trans (horow.2 j _ hy 0 _ rfl)
          have lob := Nat.lt_of_lt_of_le horow.1 hBj.size
          have f1 : (ya == (m : Int)) = false := by simpa using hne
          have f2 : decide (ya = (m : Int)) = false := decide_eq_false hne
          clear horow hy hBj
          go_wp2_with fail
          go_region
          go_wp2
          go_roundw
          case rel => exact ⟨j + 1, by omega, by go_num, Lib.hid HRJ.out.drew⟩
          case measure => simp [intOf]; omega
        obtain rfl : j = ol := by omega
        clear t0 t1 t2 r0 r1 rf kk l10 l8
        obtain ⟨nm, hnm⟩ : ∃ nm, n = nm + 1 := ⟨n - 1, by omega⟩
        have hsub : (n : Int) - 1 = (nm : Int) := by omega
        have hwm : IntKind.wrap .i64 (nm : Int) = (nm : Int) := by rw [IntKind.wrap_i64]; omega
        have HNM := Lib.hid hnm
        go_upto_region 27 with fail
        go_cut [191] (fun s w' => s = .bool false ∧ Hid (ClB wj w'))
        case first =>
          obtain ⟨⟨t0, t1, t2⟩, ⟨r0, r1, rf⟩, kk, l10, l8⟩ := HZA.out wj HCJ.out
          obtain ⟨hbx, ⟨s0, s1, s2⟩, l1, l1X⟩ := HX.out.2 wj (bchain HZ.out.2 HCJ.out)
          have c2 := hbx.cells.2.2.1
          have lg := hbx.1
          dsimp only at c2
          have j0 := (HRJ.out.cell (p := ⟨eb, eo + m1 * 3, none⟩) HEC.out.2.2.2.1).trans HEC.out.1
          have j1 := (HRJ.out.cell (p := ⟨eb, eo + m1 * 3 + 1, none⟩) HEC.out.2.2.2.1).trans HEC.out.2.1
          have j2 := (HRJ.out.cell (p := ⟨eb, eo + m1 * 3 + 2, none⟩) HEC.out.2.2.2.1).trans HEC.out.2.2.1
          have leb := Nat.lt_of_lt_of_le HEC.out.2.2.2.1 HRJ.out.size
          by_cases hkn : i = nm
          · subst hkn
            have hlast := HRO.out.1.2.2.1 _ (by rw [← HQ.out.2.2.1, HNM.out, Nat.add_sub_cancel]; exact HXX.out.1)
            simp only [Prt.mk.injEq] at hlast
            obtain ⟨rfl, rfl⟩ := hlast
            clear hnm hbx
            go_wp2_with fail
            go_region
            go_wp2_with fail
            go_meet
            exact ⟨rfl, Lib.hid ((Below.refl _ _).drew)⟩
          · have f1 : ((i : Int) == (nm : Int)) = false := by rw [beq_eq_false_iff_ne]; omega
            have f2 : decide ((i : Int) = (nm : Int)) = false := decide_eq_false (by omega)
            clear hnm hbx
            go_wp2_with fail
            go_region
            go_wp2_with fail
            go_meet
            exact ⟨rfl, Lib.hid ((Below.refl _ _).drew)⟩
        case rest =>
        obtain ⟨rfl, HCW⟩ := hcut
        have HCZ := Lib.hid (show ClB Z wc from bchain HCJ.out HCW.out)
        obtain ⟨⟨t0, t1, t2⟩, ⟨r0, r1, rf⟩, kk, l10, l8⟩ := HZA.out wc HCZ.out
        have hBc := bchain HZ.out.2 HCZ.out
        obtain ⟨hbx, ⟨s0, s1, s2⟩, l1, l1X⟩ := HX.out.2 wc hBc
        obtain ⟨c0, c1, c2, c3, c4, c5, c6, c7, c8, c9, c10⟩ := hbx.cells
        have lg := hbx.1
        dsimp only at c0 c1 c2 c3
        have hlk := fun x' (hx' : xs[i + 1]? = some x') => of_decide_eq_true (((goes_iff L xs).1 HRO.out.1.2.2.2.1).2 i _ x' HXX.out.1 hx')
        dsimp only at hlk
        have hbey := rBey_any L ⟨(some ⟨sb, so, none⟩), (some ⟨gb, go, none⟩), (some ⟨eb, eo, none⟩), a3, p0, p1, p2, p3⟩ (m : Int) xc wc (HA.out.2.2.below (bchain HX.out.1 hBc))
        generalize beyL L (m : Int) xc = z at hlk hbey
        obtain ⟨zs, zp⟩ := z
        dsimp only at hbey
        unfold Lay.val at hbey
        have HBY := Lib.hid hbey
        have HLK := Lib.hid hlk
        have HBC := Lib.hid hBc
        clear hbx hlk hbey hBc kk r0 r1 rf hnm hsub hwm
        go_wp2_with fail
        (with_reducible refine HBY.out.mono ?_)
        rintro e w7 ⟨rfl, b7⟩
        have hC7 : ClB Z w7 := HCZ.out.step b7
        obtain ⟨⟨_, _, _⟩, ⟨r0, r1, rf⟩, _, _, l87⟩ := HZA.out w7 hC7
        have q0 := rf 0
        have q1 := rf 1
        have HB7 := Lib.hid (⟨bchain HBC.out b7, rf⟩ : _ ∧ _)
        clear b7 hC7 rf t0 t1 t2 l10 l8 s0 s1 s2 l1 c0 c1 c2 c3 c4 c5 c6 c7 c8 c9 c10 lg
        go_wp2
        go_roundw
        case rel =>
          refine ⟨i + 1, zs, zp, by omega, by go_num, Lib.hid ⟨?_, by simp [go_sem, r0], by simp [go_sem, r1], fun o => ?_⟩, Lib.hid (fun x' hx' => ?_)⟩
          · exact (HB7.out.1.setCell (p := ⟨g8, 0, none⟩) (by dsimp only; omega) _).setCell (p := ⟨g8, 1, none⟩) (by dsimp only; omega) _
          · simpa [go_sem] using HB7.out.2 o
          · have := HLK.out x' hx'
            cases x'
            simpa using this
        case measure => simp [intOf]; omega
    obtain rfl : k = n := by omega
    have HKX := Lib.hid hx30
    clear hbx s0 s1 s2 l1 hx30
    have mk : k ≤ 9223372036854775807 := by omega
    go_wp2_with fail
    go_loopw [16, 17] (fun s c wv => ∃ (i j : Nat), i ≤ k ∧ j ≤ vn ∧ s = .int .i64 j ∧ c = .int .i64 i ∧ Hid (ClB ww wv) ∧ Hid (eat vs (xs.take i) = vs.drop j)) (fun _ c _ => k - (intOf c).toNat)
    case atStart => exact ⟨0, 0, Nat.zero_le _, Nat.zero_le _, rfl, rfl, Lib.hid (Below.refl _ _), Lib.hid (by simp [eat])⟩
    case round =>
      obtain ⟨i, j, hik, hjv, rfl, rfl, HRI, HEA⟩ := hrel
      obtain ⟨wj, hwj⟩ : ∃ wj, wj = wr := ⟨_, rfl⟩
      subst hwj
      have HBJ := Lib.hid (bchain HI.out.1 HRI.out)
      by_cases hlt2 : i < k
      case pos =>
        obtain ⟨hbx, ⟨s0, s1, s2⟩, l1, l1X⟩ := HX.out.2 wj HBJ.out
        have hBw := bchain HX.out.1 HBJ.out
        obtain ⟨b, off, hAe, hrow⟩ := HA.out.1.get (j := i) (by rw [← HQ.out.2.2.1]; exact hlt2)
        subst hAe
        obtain ⟨x, hx⟩ : ∃ x, xs[i]? = some x := ⟨_, List.getElem?_eq_getElem (by rw [← HQ.out.2.2.1]; exact hlt2)⟩
        have hes := eat_step HEA.out hx
        obtain ⟨xa, xb, xc⟩ := x
        have x0 : wj.cell? ⟨b, off + i * 3, none⟩ = some (.int .i64 xa) := (hBw.cell (p := ⟨b, off + i * 3, none⟩) hrow.1).trans (hrow.2 i _ hx 0 _ rfl)
        have lb := Nat.lt_of_lt_of_le hrow.1 hBw.size
        have HES := Lib.hid hes
        clear hes hbx hx hrow
        by_cases hj2 : j < vn
        case neg =>
          have f1 : decide ((j : Int) < (vn : Int)) = false := decide_eq_false (by omega)
          have hnx := HES.out.2 (fun v hv' => by
            have := (List.getElem?_eq_some_iff.1 hv').1
            have := HQ.out.2.2.2
            omega)
          have HNX := Lib.hid hnx
          clear hnx hBw
          go_wp2_with fail
          go_region
          go_wp2
          go_roundw
          case rel => exact ⟨i + 1, j, by omega, by omega, rfl, by go_num, Lib.hid (HRI.out.step (Below.refl _ _).drew), HNX⟩
          case measure => simp [intOf]; omega
        have f1 : decide ((j : Int) < (vn : Int)) = true := decide_eq_true (by omega)
        obtain ⟨vb, voff, hVe, hvrow⟩ := HA.out.2.1.get (j := j) (by rw [← HQ.out.2.2.2]; exact hj2)
        subst hVe
        obtain ⟨v, hvv⟩ : ∃ v, vs[j]? = some v := ⟨_, List.getElem?_eq_getElem (by rw [← HQ.out.2.2.2]; exact hj2)⟩
        have v0 : wj.cell? ⟨vb, voff + j, none⟩ = some (.int .i64 v) := (hBw.cell (p := ⟨vb, voff + j, none⟩) hvrow.1).trans (by simpa using hvrow.2 j v hvv 0 _ rfl)
        have lvb := Nat.lt_of_lt_of_le hvrow.1 hBw.size
        by_cases hxv : xa = v
        case pos =>
          subst hxv
          have hnx := HES.out.1 xa hvv rfl
          have HNX := Lib.hid hnx
          clear hnx hBw hvrow hvv
          go_wp2_with fail
          go_region
          go_wp2
          go_roundw
          case rel => exact ⟨i + 1, j + 1, by omega, by omega, by go_num, by go_num, Lib.hid (HRI.out.step (Below.refl _ _).drew), HNX⟩
          case measure => simp [intOf]; omega
        have hnx := HES.out.2 (fun v' hv' => by
          rw [hvv] at hv'
          cases hv'
          exact hxv)
        have HNX := Lib.hid hnx
        have f2 : (xa == v) = false := by simpa using hxv
        have f3 : decide (xa = v) = false := decide_eq_false hxv
        clear hnx hBw hvrow hvv
        go_wp2_with fail
        go_region
        go_wp2
        go_roundw
        case rel => exact ⟨i + 1, j, by omega, by omega, rfl, by go_num, Lib.hid (HRI.out.step (Below.refl _ _).drew), HNX⟩
        case measure => simp [intOf]; omega
      obtain rfl : i = k := by omega
      have hjn : j = vn := by
        have h1 := HEA.out
        rw [HQ.out.2.2.1, List.take_length] at h1
        have h2 := HRO.out.1.2.2.2.2.1
        unfold throughL at h2
        rw [decide_eq_true_iff, h1, List.length_drop] at h2
        have := HQ.out.2.2.2
        omega
      subst hjn
      go_wp2_with fail
      (with_reducible refine (HWK.out _ (bchain HX.out.1 HBJ.out)).mono ?_)
      rintro e w9 ⟨rfl, b9⟩
      have HB9 := Lib.hid (bchain (bchain HX.out.1 HBJ.out) b9)
      clear b9
      go_wp2
      go_ret
      exact ⟨rfl, HB9.out⟩
end Go.Proofs.YtpcojaoeahdgcaaDoor

/-
  RoutePath: a Route path begins at its signal, ends at its exit, goes by ways from one section to the next one, through none twice, nor through its overlap, and past no other signal.
  Conditions: port.kinds and port.none (and join.end, where it is listed) start as the program's text lays them (the tied card; it ties them to the pruned copy that the seat holds).
-/
namespace Go.Proofs.YtpcojaoeahdgcaaDoor
open Go.RowKit Go.WideShapes Go.ChangeShapes Go.ChangeAt Go.WideMaps Go.WideElems Go.Joins Go.Deep

set_option maxRecDepth 100000 in
theorem routePath_lifted (os : Os) (started : os.Started) (H : Type) (enc : TypeId × Value → H) :
    ReturnsInHanded {} Tryd.checked os 3 .any (fun w args => (Rows.routePathSpec.pre enc Tryd.prog Tryd.f3 [] false w args ∧ laidMetH Tryd.prog laidL w) ∧ sizedMet enc Tryd.prog Tryd.f3 (OpenSpec.ofChange Rows.routePathSpec) false w args)
      (Rows.routePathSpec.post enc Tryd.prog Tryd.f3 false true false false) := by
  refine law_lifted_laid (C := Tryd.checked) (tb := 4) ownP started (by kernel_rfl) Tryd.func3
    (ChangeSpec.witness_shaped (enc := enc) (C := Tryd.checked) (os := os) (X := fun w _ => laidMetH Tryd.prog laidL w) false (World.doorLaid Tryd.prog 400 os) #[.agg #[.slice none 0 0, .slice none 0 0, .slice none 0 0, .slice none 0 0, .int .i64 0, .int .i64 0, .int .i64 0, .int .i64 0, .int .i64 0, .int .i64 0, .int .i64 0], .agg #[.int .i64 0, .int .i64 0, .slice none 0 0], .slice none 0 0] 8 rfl (World.shaped_of_RefB (by kernel_rfl) (by kernel_rfl)) (by kernel_rfl) (by kernel_rfl) (by kernel_rfl) (door_met os _))
    laidP (by kernel_rfl) rfl rfl Tryd.underlying4 ?_
  intro W base args ds p hval0 hA0 hlt hL
  have hval : ∀ (j : Nat) t v, Tryd.f3.params[j]? = some t → args[j]? = some v → Value.okWide Tryd.prog W .any base t v := hval0
  have hA : DataW.TrodAll enc Tryd.prog W 0 (fun _ => true) true Tryd.f3.params.toList args.toList ds p := hA0
  clear hval0 hA0
  rw [Tryd.params3] at hA hval
  obtain ⟨vs⟩ := args
  dsimp only at hA
  obtain ⟨v0, vs0, d0, ds0, p0, q0, rfl, rfl, rfl, h0, hA⟩ := trodAll_cons hA
  obtain ⟨v1, vs1, d1, ds1, p1, q1, rfl, rfl, rfl, h1, hA⟩ := trodAll_cons hA
  obtain ⟨v2, vs2, d2, ds2, p2, q2, rfl, rfl, rfl, h2, hA⟩ := trodAll_cons hA
  obtain ⟨rfl, rfl, rfl⟩ := trodAll_nil hA
  obtain ⟨L0, w0, rfl, hl0⟩ := open_layout (hval 0 29 v0 rfl rfl) h0
  obtain ⟨sg1, ex1, A1, cap1, xs1, rfl, hA1, hl1, hm1⟩ := open_path (hval 1 32 v1 rfl rfl) h1
  obtain ⟨V2, vcap2, zs2, rfl, hV2, hv2, hvm2⟩ := open_intsV (hval 2 33 v2 rfl rfl) h2
  exact ⟨⟨rfl, rfl, rfl⟩, routePath_walk L0 w0 sg1 ex1 A1 cap1 xs1 V2 vcap2 zs2 W hl0 hA1 hl1 hm1 hV2 hv2 hvm2 (kinds_of_laid hL)⟩

theorem routePath_holds : Rows.RoutePathSaid :=
  OpenClaim.holds_of_wide 3 Tryd.f3 rfl rfl rfl rfl rfl rfl rfl ⟨rfl, rfl, rfl, rfl, rfl⟩ rfl rfl rfl rfl rfl (by kernel_rfl) Tryd.func3 (by kernel_rfl)
    (of_decide_eq_true (by kernel_rfl)) (by unfold Func.isWrapper; first | (rw [if_pos (by decide +kernel)]; kernel_rfl) | (rw [if_neg (of_decide_eq_false (by kernel_rfl))]; exact ⟨rfl, rfl⟩))
    (fun os started H enc _ => routePath_lifted os started H enc)

theorem routePath_card : Rows.RoutePathCardSaid :=
  Claim7.holds_tied_plain_at .later [] [.data, .data, .data] true (true, "cfff4adc463c6f9ce7949ac5343bd4b581054832799839b491415a10a7ea59f5") false
    routePath_holds (fun _ h => by cases h) (by kernel_rfl) (fun _ h => by cases h) routePath_row_tie rfl ⟨rfl, rfl⟩ (by kernel_rfl) rfl
    (fun f fn hf hfn => by
      obtain rfl : f = 3 := Option.some.inj ((show Tryd.prog.funcNamed "lockbar/lockbarlaw11.RoutePath" = some 3 by kernel_rfl).symm.trans hf) |>.symm
      obtain rfl : fn = Tryd.f3 := (Option.some.inj (Tryd.func3.symm.trans hfn)).symm
      exact ⟨by kernel_rfl, fun j t ht => by
        rw [Tryd.params3] at ht
        have hm : t ∈ [29, 32, 33] := by simpa using Array.mem_of_getElem? ht
        have hall : ([29, 32, 33].all fun u => !Tryd.prog.wantsStandIn u) = true := by kernel_rfl
        exact (show Tryd.prog.wantsStandIn t = false by simpa using List.all_eq_true.1 hall t hm)⟩)
    (by kernel_rfl)
#print axioms routePath_card
end Go.Proofs.YtpcojaoeahdgcaaDoor
