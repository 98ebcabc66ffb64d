/-
  The walk of RouteTells.
-/
import Derived.Test.YtpcojaoeahdgcaaGreatDoorM8

namespace Go.Proofs.YtpcojaoeahdgcaaGreatDoor
open Go.RowKit Go.Shelf

set_option maxRecDepth 100000 in
set_option maxHeartbeats 32000000 in
theorem routeTells_walk (L : Lay) (P : Where) (sg ex : Int) (A : Option Addr) (cap : Nat) (xs : List Stp) (sg' ex' : Int) (A' : Option Addr) (cap' : Nat) (ys : List Stp) (V : Option Addr) (vcap : Nat) (vs : List Int) (w : World) (hL : LayAt w P L) (hA : At w 3 Stp.enc A xs) (hl : xs.length ≤ cap) (hm : cap ≤ 9223372036854775807) (hA' : At w 3 Stp.enc A' ys) (hl' : ys.length ≤ cap') (hm' : cap' ≤ 9223372036854775807) (hV : At w 1 intEnc V vs) (hv : vs.length ≤ vcap) (hvm : vcap ≤ 9223372036854775807) (KE : Kinds w ∧ JEnd w) :
    Calls Tryz.prog 3 #[L.val P, .agg #[.int .i64 sg, .int .i64 ex, .slice A xs.length cap], .agg #[.int .i64 sg', .int .i64 ex', .slice A' ys.length cap'], .slice V vs.length vcap] w fun e w' => e = .returned (.bool true) ∧ Below w.heap.size w w' := by
  have hgx := fun X (hX : Below w.heap.size w X) => great11_any L P sg ex A xs.length cap X (hL.below hX) (Nat.le_trans hl hm)
  have hgy := fun X (hX : Below w.heap.size w X) => great11_any L P sg' ex' A' ys.length cap' X (hL.below hX) (Nat.le_trans hl' hm')
  have hwk := fun X (hX : Below w.heap.size w X) => wakes11_any X (KE.1.below hX) (KE.2.below hX)
  obtain ⟨n, hn⟩ : ∃ n, n = xs.length := ⟨_, rfl⟩
  obtain ⟨n', hn'⟩ : ∃ n', n' = ys.length := ⟨_, rfl⟩
  obtain ⟨vn, hvn⟩ : ∃ vn, vn = vs.length := ⟨_, rfl⟩
  obtain ⟨r, hr⟩ : ∃ r, r = routeN L sg ex xs vs := ⟨_, rfl⟩
  obtain ⟨qg, hqg⟩ : ∃ q, q = goesL L xs := ⟨_, rfl⟩
  obtain ⟨qh, hqh⟩ : ∃ q, q = throughL vs xs := ⟨_, rfl⟩
  obtain ⟨qs, hqs⟩ : ∃ q, q = decide (sg = sg' ∧ ex = ex' ∧ xs = ys) := ⟨_, rfl⟩
  rw [← hn] at hgx hl
  rw [← hn'] at hgy hl'
  rw [← hvn] at hv
  rw [← hn, ← hn', ← hvn]
  obtain ⟨a0, a1, a2, a3, p0, p1, p2, p3⟩ := P
  unfold Lay.val at hgx hgy ⊢
  have HGX := Lib.hid hgx
  have HGY := Lib.hid hgy
  have HWK := Lib.hid hwk
  have HQ := Lib.hid (⟨hn, hn', hvn, hr, hqg, hqh, hqs⟩ : _ ∧ _ ∧ _ ∧ _ ∧ _ ∧ _ ∧ _)
  have HA := Lib.hid (⟨hA, hA', hV, hL, KE⟩ : _ ∧ _ ∧ _ ∧ _ ∧ _)
  clear hgx hgy hwk hn hn' hvn hr hqg hqh hqs hA hA' hV hL KE
  go_enter Tryz.func3, Tryz.ntmps3
  go_wp2_with fail
  obtain ⟨X, hX⟩ : ∃ X, X = ((w.alloc (.cells #[.slice a0 L.secs.length p0, .slice a1 L.sigs.length p1, .slice a2 L.exits.length p2, .slice a3 L.flanks.length p3, .int .i64 L.t0, .int .i64 L.t1, .int .i64 L.t2, .int .i64 L.t3, .int .i64 L.t4, .int .i64 L.t5, .int .i64 L.t6] 29)).alloc (.cells #[.int .i64 sg, .int .i64 ex, .slice A n cap] 32)).alloc (.cells #[.int .i64 sg', .int .i64 ex', .slice A' n' cap'] 32) := ⟨_, rfl⟩
  have hB : Below w.heap.size w X := by rw [hX]; exact bchain (bchain bself bself) bself
  have hBL : BoxL X w.heap.size L ⟨a0, a1, a2, a3, p0, p1, p2, p3⟩ := by rw [hX]; exact ((BoxL.make (L := L) (p := ⟨a0, a1, a2, a3, p0, p1, p2, p3⟩) _ rfl).below bself).below bself
  have hz : (∀ o, X.cell? ⟨w.heap.size + 1, o, none⟩ = (#[.int .i64 sg, .int .i64 ex, .slice A n cap] : Array Value)[o]?) ∧ ∀ o, X.cell? ⟨w.heap.size + 1 + 1, o, none⟩ = (#[.int .i64 sg', .int .i64 ex', .slice A' n' cap'] : Array Value)[o]? := ⟨fun o => by rw [hX]; simp [go_sem], fun o => by rw [hX]; simp [go_sem]⟩
  have hsz : X.heap.size = w.heap.size + 3 := by rw [hX]; simp
  have hall : ∀ V, ClB X V → BoxL V w.heap.size L ⟨a0, a1, a2, a3, p0, p1, p2, p3⟩ ∧ (V.cell? ⟨w.heap.size + 1, 0, none⟩ = some (.int .i64 sg) ∧ V.cell? ⟨w.heap.size + 1, 1, none⟩ = some (.int .i64 ex) ∧ V.cell? ⟨w.heap.size + 1, 2, none⟩ = some (.slice A n cap)) ∧ (V.cell? ⟨w.heap.size + 1 + 1, 0, none⟩ = some (.int .i64 sg') ∧ V.cell? ⟨w.heap.size + 1 + 1, 1, none⟩ = some (.int .i64 ex') ∧ V.cell? ⟨w.heap.size + 1 + 1, 2, none⟩ = some (.slice A' n' cap')) ∧ w.heap.size + 1 < V.heap.size ∧ w.heap.size + 1 + 1 < V.heap.size := fun V hC => by
    have hs := hC.size
    have g1 : ∀ o, V.cell? ⟨w.heap.size + 1, o, none⟩ = X.cell? ⟨w.heap.size + 1, o, none⟩ := fun o => hC.cell (p := ⟨w.heap.size + 1, o, none⟩) (by rw [hsz]; dsimp only; omega)
    have g2 : ∀ o, V.cell? ⟨w.heap.size + 1 + 1, o, none⟩ = X.cell? ⟨w.heap.size + 1 + 1, o, none⟩ := fun o => hC.cell (p := ⟨w.heap.size + 1 + 1, o, none⟩) (by rw [hsz]; dsimp only; omega)
    exact ⟨hBL.below hC, ⟨(g1 0).trans (hz.1 0), (g1 1).trans (hz.1 1), (g1 2).trans (hz.1 2)⟩, ⟨(g2 0).trans (hz.2 0), (g2 1).trans (hz.2 1), (g2 2).trans (hz.2 2)⟩, by omega, by omega⟩
  have HX := Lib.hid (⟨hB, hall⟩ : _ ∧ _)
  rw [← hX]
  clear hX hB hBL hz hsz hall
  (with_reducible refine (HGX.out X HX.out.1).mono ?_)
  rintro e w1 ⟨g, rfl, hf1, b1⟩
  have HB1 := Lib.hid (⟨b1, hf1⟩ : _ ∧ _)
  clear b1 hf1
  cases g with
  | true =>
    go_wp2_with fail
    (with_reducible refine (HWK.out _ (bchain HX.out.1 HB1.out.1)).mono ?_)
    rintro e w9 ⟨rfl, b9⟩
    have HB9 := Lib.hid (bchain (bchain HX.out.1 HB1.out.1) b9)
    clear b9
    go_wp2
    go_ret
    exact ⟨rfl, HB9.out⟩
  | false =>
  obtain ⟨hbx, ⟨s0, s1, s2⟩, ⟨t0, t1, t2⟩, l1, l2⟩ := HX.out.2 w1 HB1.out.1
  obtain ⟨c0, c1, c2, c3, c4, c5, c6, c7, c8, c9, c10⟩ := hbx.cells
  have lg := hbx.1
  dsimp only at c0 c1 c2 c3
  clear hbx
  go_wp2_with fail
  (with_reducible refine (HGY.out w1 (bchain HX.out.1 HB1.out.1)).mono ?_)
  rintro e w2 ⟨g, rfl, hf2, b2⟩
  have HB2 := Lib.hid (⟨bchain HB1.out.1 b2, hf2⟩ : _ ∧ _)
  clear b2 hf2 c0 c1 c2 c3 c4 c5 c6 c7 c8 c9 c10 lg s0 s1 s2 t0 t1 t2 l1 l2
  cases g with
  | true =>
    go_wp2_with fail
    (with_reducible refine (HWK.out _ (bchain HX.out.1 HB2.out.1)).mono ?_)
    rintro e w9 ⟨rfl, b9⟩
    have HB9 := Lib.hid (bchain (bchain HX.out.1 HB2.out.1) b9)
    clear b9
    go_wp2
    go_ret
    exact ⟨rfl, HB9.out⟩
  | false =>
  have hn30 : n ≤ 30 := (HB1.out.2 (by first | exact rfl | trivial)).2
  have mv : vn ≤ 9223372036854775807 := by omega
  by_cases h2 : 10 < vn
  case pos =>
    have d2 : decide ((10 : Int) < (vn : Int)) = true := decide_eq_true (by omega)
    go_wp2_with fail
    (with_reducible refine (HWK.out _ (bchain HX.out.1 HB2.out.1)).mono ?_)
    rintro e w9 ⟨rfl, b9⟩
    have HB9 := Lib.hid (bchain (bchain HX.out.1 HB2.out.1) b9)
    clear b9
    go_wp2
    go_ret
    exact ⟨rfl, HB9.out⟩
  have d2 : decide ((10 : Int) < (vn : Int)) = false := decide_eq_false (by omega)
  obtain ⟨Y, hY⟩ : ∃ Y, Y = w2 := ⟨_, rfl⟩
  subst hY
  have HXY := Lib.hid (show ClB X Y from HB2.out.1)
  have HY := Lib.hid (bchain HX.out.1 HB2.out.1)
  go_upto_region 3 with fail
  have k1 : ∀ (W : World), ClB Y W → Calls Tryz.prog 6 #[.agg #[.slice a0 L.secs.length p0, .slice a1 L.sigs.length p1, .slice a2 L.exits.length p2, .slice a3 L.flanks.length p3, .int .i64 L.t0, .int .i64 L.t1, .int .i64 L.t2, .int .i64 L.t3, .int .i64 L.t4, .int .i64 L.t5, .int .i64 L.t6], .agg #[.int .i64 sg, .int .i64 ex, .slice A n cap], .slice V vn vcap] W fun e w' => e = .returned (.int .i64 r) ∧ Below W.heap.size W w' := fun W h => by
    have g := rcheck_any L ⟨a0, a1, a2, a3, p0, p1, p2, p3⟩ sg ex A V cap vcap xs vs W (HA.out.2.2.2.1.below (bchain HY.out h)) (HA.out.2.2.2.2.1.below (bchain HY.out h)) (HA.out.2.2.2.2.2.below (bchain HY.out h)) (HA.out.1.below (bchain HY.out h)) (by rw [← HQ.out.1]; exact hl) hm (by rw [← HQ.out.1]; omega) (HA.out.2.2.1.below (bchain HY.out h)) (by rw [← HQ.out.2.2.1]; exact hv) hvm
    rw [← HQ.out.2.2.2.1, ← HQ.out.1, ← HQ.out.2.2.1] at g
    exact g
  have k2 : ∀ (W : World), ClB Y W → Calls Tryz.prog 7 #[.agg #[.slice a0 L.secs.length p0, .slice a1 L.sigs.length p1, .slice a2 L.exits.length p2, .slice a3 L.flanks.length p3, .int .i64 L.t0, .int .i64 L.t1, .int .i64 L.t2, .int .i64 L.t3, .int .i64 L.t4, .int .i64 L.t5, .int .i64 L.t6], .agg #[.int .i64 sg, .int .i64 ex, .slice A n cap], .slice V vn vcap] W fun e w' => e = .returned (.int .i64 r) ∧ Below W.heap.size W w' := fun W h => by
    have g := rCheck11_any L ⟨a0, a1, a2, a3, p0, p1, p2, p3⟩ sg ex A V cap vcap xs vs W (HA.out.2.2.2.1.below (bchain HY.out h)) (HA.out.1.below (bchain HY.out h)) (by rw [← HQ.out.1]; omega) (HA.out.2.2.1.below (bchain HY.out h)) (by rw [← HQ.out.2.2.1]; omega)
    rw [← HQ.out.2.2.2.1, ← HQ.out.1, ← HQ.out.2.2.1] at g
    exact g
  have k3 : ∀ (W : World), ClB Y W → Calls Tryz.prog 8 #[.agg #[.slice a0 L.secs.length p0, .slice a1 L.sigs.length p1, .slice a2 L.exits.length p2, .slice a3 L.flanks.length p3, .int .i64 L.t0, .int .i64 L.t1, .int .i64 L.t2, .int .i64 L.t3, .int .i64 L.t4, .int .i64 L.t5, .int .i64 L.t6], .agg #[.int .i64 sg, .int .i64 ex, .slice A n cap], .slice V vn vcap] W fun e w' => e = .returned (.bool (decide (r = 0))) ∧ Below W.heap.size W w' := fun W h => by
    have g := ris_any L ⟨a0, a1, a2, a3, p0, p1, p2, p3⟩ sg ex A V cap vcap xs vs W (HA.out.2.2.2.1.below (bchain HY.out h)) (HA.out.2.2.2.2.1.below (bchain HY.out h)) (HA.out.2.2.2.2.2.below (bchain HY.out h)) (HA.out.1.below (bchain HY.out h)) (by rw [← HQ.out.1]; exact hl) hm (by rw [← HQ.out.1]; omega) (HA.out.2.2.1.below (bchain HY.out h)) (by rw [← HQ.out.2.2.1]; exact hv) hvm
    rw [← HQ.out.2.2.2.1, ← HQ.out.1, ← HQ.out.2.2.1] at g
    exact g
  have k4 : ∀ (W : World), ClB Y W → Calls Tryz.prog 9 #[.agg #[.slice a0 L.secs.length p0, .slice a1 L.sigs.length p1, .slice a2 L.exits.length p2, .slice a3 L.flanks.length p3, .int .i64 L.t0, .int .i64 L.t1, .int .i64 L.t2, .int .i64 L.t3, .int .i64 L.t4, .int .i64 L.t5, .int .i64 L.t6], .agg #[.int .i64 sg, .int .i64 ex, .slice A n cap], .slice V vn vcap] W fun e w' => e = .returned (.bool (decide (r = 0))) ∧ Below W.heap.size W w' := fun W h => by
    have g := rIs11_any L ⟨a0, a1, a2, a3, p0, p1, p2, p3⟩ sg ex A V cap vcap xs vs W (HA.out.2.2.2.1.below (bchain HY.out h)) (HA.out.1.below (bchain HY.out h)) (by rw [← HQ.out.1]; omega) (HA.out.2.2.1.below (bchain HY.out h)) (by rw [← HQ.out.2.2.1]; omega)
    rw [← HQ.out.2.2.2.1, ← HQ.out.1, ← HQ.out.2.2.1] at g
    exact g
  have k5 : ∀ (W : World), ClB Y W → Calls Tryz.prog 10 #[.agg #[.slice a0 L.secs.length p0, .slice a1 L.sigs.length p1, .slice a2 L.exits.length p2, .slice a3 L.flanks.length p3, .int .i64 L.t0, .int .i64 L.t1, .int .i64 L.t2, .int .i64 L.t3, .int .i64 L.t4, .int .i64 L.t5, .int .i64 L.t6], .slice A n cap] W fun e w' => e = .returned (.bool qg) ∧ Below W.heap.size W w' := fun W h => by
    have g := goes_any L ⟨a0, a1, a2, a3, p0, p1, p2, p3⟩ A cap xs W (HA.out.2.2.2.1.below (bchain HY.out h)) (HA.out.2.2.2.2.1.below (bchain HY.out h)) (HA.out.2.2.2.2.2.below (bchain HY.out h)) (HA.out.1.below (bchain HY.out h)) (by rw [← HQ.out.1]; exact hl) hm
    rw [← HQ.out.2.2.2.2.1, ← HQ.out.1] at g
    exact g
  have k6 : ∀ (W : World), ClB Y W → Calls Tryz.prog 11 #[.agg #[.slice a0 L.secs.length p0, .slice a1 L.sigs.length p1, .slice a2 L.exits.length p2, .slice a3 L.flanks.length p3, .int .i64 L.t0, .int .i64 L.t1, .int .i64 L.t2, .int .i64 L.t3, .int .i64 L.t4, .int .i64 L.t5, .int .i64 L.t6], .slice A n cap] W fun e w' => e = .returned (.bool qg) ∧ Below W.heap.size W w' := fun W h => by
    have g := rGoes11_any L ⟨a0, a1, a2, a3, p0, p1, p2, p3⟩ A cap xs W (HA.out.2.2.2.1.below (bchain HY.out h)) (HA.out.1.below (bchain HY.out h)) (by rw [← HQ.out.1]; omega)
    rw [← HQ.out.2.2.2.2.1, ← HQ.out.1] at g
    exact g
  have k7 : ∀ (W : World), ClB Y W → Calls Tryz.prog 12 #[.agg #[.int .i64 sg, .int .i64 ex, .slice A n cap], .slice V vn vcap] W fun e w' => e = .returned (.bool qh) ∧ Below W.heap.size W w' := fun W h => by
    have g := through_any sg ex A V cap vcap xs vs W (HA.out.1.below (bchain HY.out h)) (HA.out.2.2.1.below (bchain HY.out h)) (by rw [← HQ.out.1]; omega) (by rw [← HQ.out.2.2.1]; exact hv) hvm
    rw [← HQ.out.2.2.2.2.2.1, ← HQ.out.1, ← HQ.out.2.2.1] at g
    exact g
  have k8 : ∀ (W : World), ClB Y W → Calls Tryz.prog 13 #[.agg #[.int .i64 sg, .int .i64 ex, .slice A n cap], .slice V vn vcap] W fun e w' => e = .returned (.bool qh) ∧ Below W.heap.size W w' := fun W h => by
    have g := rThrough11_any sg ex A V cap vcap xs vs W (HA.out.1.below (bchain HY.out h)) (HA.out.2.2.1.below (bchain HY.out h)) (by rw [← HQ.out.1]; omega) (by rw [← HQ.out.2.2.1]; omega)
    rw [← HQ.out.2.2.2.2.2.1, ← HQ.out.1, ← HQ.out.2.2.1] at g
    exact g
  have k9 : ∀ (W : World), ClB Y W → Calls Tryz.prog 15 #[.agg #[.int .i64 sg, .int .i64 ex, .slice A n cap]] W fun e w' => ∃ v, e = .returned (.agg #[.int .i64 sg, .int .i64 ex, v]) ∧ Sl w' 3 Stp.enc v xs ∧ Below W.heap.size W w' := fun W h => by
    have g := ownR_any sg ex A cap xs W (HA.out.1.below (bchain HY.out h)) (by rw [← HQ.out.1]; omega)
    rw [← HQ.out.1] at g
    exact g
  have k10 : ∀ (W : World) (BA : Option Addr) (bc : Nat), ClB Y W → At W 3 Stp.enc BA xs → Calls Tryz.prog 14 #[.agg #[.int .i64 sg, .int .i64 ex, .slice BA n bc], .agg #[.int .i64 sg, .int .i64 ex, .slice A n cap]] W fun e w' => e = .returned (.bool true) ∧ Below W.heap.size W w' := fun W BA bc h hb => by
    have g := rSame11_any sg ex sg ex BA A bc cap xs xs W hb (HA.out.1.below (bchain HY.out h)) (by rw [← HQ.out.1]; omega)
    rw [decide_eq_true ⟨rfl, rfl, rfl⟩, ← HQ.out.1] at g
    exact g
  have k11 : ∀ (W : World), ClB Y W → Calls Tryz.prog 16 #[.agg #[.int .i64 sg, .int .i64 ex, .slice A n cap], .agg #[.int .i64 sg', .int .i64 ex', .slice A' n' cap']] W fun e w' => e = .returned (.bool qs) ∧ Below W.heap.size W w' := fun W h => by
    have g := routeSame_any sg ex sg' ex' A A' cap cap' xs ys W (HA.out.1.below (bchain HY.out h)) (HA.out.2.1.below (bchain HY.out h)) (by rw [← HQ.out.1]; omega)
    rw [← HQ.out.2.2.2.2.2.2, ← HQ.out.1, ← HQ.out.2.1] at g
    exact g
  have k12 : ∀ (W : World), ClB Y W → Calls Tryz.prog 14 #[.agg #[.int .i64 sg, .int .i64 ex, .slice A n cap], .agg #[.int .i64 sg', .int .i64 ex', .slice A' n' cap']] W fun e w' => e = .returned (.bool qs) ∧ Below W.heap.size W w' := fun W h => by
    have g := rSame11_any sg ex sg' ex' A A' cap cap' xs ys W (HA.out.1.below (bchain HY.out h)) (HA.out.2.1.below (bchain HY.out h)) (by rw [← HQ.out.1]; omega)
    rw [← HQ.out.2.2.2.2.2.2, ← HQ.out.1, ← HQ.out.2.1] at g
    exact g
  have HC := Lib.hid (⟨k1, k2, k3, k4, k5, k6, k7, k8, k9, k10, k11, k12, fun W (h : ClB Y W) => HWK.out W (bchain HY.out h)⟩ : _ ∧ _ ∧ _ ∧ _ ∧ _ ∧ _ ∧ _ ∧ _ ∧ _ ∧ _ ∧ _ ∧ _ ∧ _)
  have p0' : ∀ W, ClB Y W → W.cell? ⟨w.heap.size + 1, 0, none⟩ = some (.int .i64 sg) := fun W h => (HX.out.2 W (HXY.out.step h)).2.1.1
  have p1' : ∀ W, ClB Y W → W.cell? ⟨w.heap.size + 1, 1, none⟩ = some (.int .i64 ex) := fun W h => (HX.out.2 W (HXY.out.step h)).2.1.2.1
  have p2' : ∀ W, ClB Y W → W.cell? ⟨w.heap.size + 1, 2, none⟩ = some (.slice A n cap) := fun W h => (HX.out.2 W (HXY.out.step h)).2.1.2.2
  have u0 : ∀ W, ClB Y W → W.cell? ⟨w.heap.size + 1 + 1, 0, none⟩ = some (.int .i64 sg') := fun W h => (HX.out.2 W (HXY.out.step h)).2.2.1.1
  have u1 : ∀ W, ClB Y W → W.cell? ⟨w.heap.size + 1 + 1, 1, none⟩ = some (.int .i64 ex') := fun W h => (HX.out.2 W (HXY.out.step h)).2.2.1.2.1
  have u2 : ∀ W, ClB Y W → W.cell? ⟨w.heap.size + 1 + 1, 2, none⟩ = some (.slice A' n' cap') := fun W h => (HX.out.2 W (HXY.out.step h)).2.2.1.2.2
  have HBX := Lib.hid ((HX.out.2 Y HXY.out).1)
  clear k1 k2 k3 k4 k5 k6 k7 k8 k9 k10 k11 k12
  refine wp_region_rel_below [([(4, none)], none), ([(5, none)], none), ([(3, none)], none), ([(23, some 2), (24, some 1), (25, some 0)], none), ([(4, none)], none), ([(5, none)], none), ([(3, none)], none), ([(27, some 2), (28, some 1), (29, some 0)], none), ([(26, some 4), (30, some 0)], none), ([(31, some 0)], none), ([(4, none), (32, some 0)], some (32, true)), ([(5, none), (32, some 1)], some (32, true)), ([(3, none), (32, some 2)], some (32, true)), ([(33, some 2), (34, some 1), (35, some 0), (32, some 3)], some (32, true)), ([(4, none), (32, some 4)], some (32, true)), ([(5, none), (32, some 5)], some (32, true)), ([(3, none), (32, some 6)], some (32, true)), ([(37, some 2), (38, some 1), (39, some 0), (32, some 7)], some (32, true)), ([(36, some 4), (40, some 0), (32, some 8)], some (32, true)), ([(32, some 9), (41, some 0)], none), ([(42, some 0)], none), ([(4, none), (43, some 0)], some (43, true)), ([(5, none), (43, some 1)], some (43, true)), ([(45, some 0), (43, some 2)], some (43, true)), ([(44, some 2), (46, some 0), (43, some 3)], some (43, true)), ([(4, none), (43, some 4)], some (43, true)), ([(5, none), (43, some 5)], some (43, true)), ([(49, some 0), (43, some 6)], some (43, true)), ([(48, some 2), (50, some 0), (43, some 7)], some (43, true)), ([(47, some 4), (51, some 0), (43, some 8)], some (43, true)), ([(43, some 9), (52, some 0)], none), ([(53, some 0)], none), ([(5, none), (54, some 0)], some (54, true)), ([(3, none), (54, some 1)], some (54, true)), ([(55, some 1), (56, some 0), (54, some 2)], some (54, true)), ([(5, none), (54, some 3)], some (54, true)), ([(3, none), (54, some 4)], some (54, true)), ([(58, some 1), (59, some 0), (54, some 5)], some (54, true)), ([(57, some 3), (60, some 0), (54, some 6)], some (54, true)), ([(54, some 7), (61, some 0)], none), ([(62, some 0)], none), ([(5, none), (63, some 0)], some (63, true)), ([(64, some 0), (63, some 1)], some (63, true)), ([(5, none), (63, some 2)], some (63, true)), ([(65, some 1), (66, some 0), (63, some 3)], some (63, true)), ([(63, some 4), (67, some 0)], none), ([(68, some 0)], none), ([(5, none), (69, some 0)], some (69, true)), ([(6, none), (69, some 1)], some (69, true)), ([(70, some 1), (71, some 0), (69, some 2)], some (69, true)), ([(5, none), (69, some 3)], some (69, true)), ([(6, none), (69, some 4)], some (69, true)), ([(73, some 1), (74, some 0), (69, some 5)], some (69, true)), ([(72, some 3), (75, some 0), (69, some 6)], some (69, true)), ([(69, some 7), (76, some 0)], none), ([(77, some 0)], none), ([(78, some 0)], some (78, true)), ([(78, some 1), (79, some 0)], none), ([(80, some 0)], none)] [(0, 8)] (by kernel_rfl) (by kernel_rfl) ?_
  refine ob_det (c := .agg #[.slice a0 L.secs.length p0, .slice a1 L.sigs.length p1, .slice a2 L.exits.length p2, .slice a3 L.flanks.length p3, .int .i64 L.t0, .int .i64 L.t1, .int .i64 L.t2, .int .i64 L.t3, .int .i64 L.t4, .int .i64 L.t5, .int .i64 L.t6]) ?_ ?_
  · intro ρ W hk hC
    simp only [seen, obOp]
    rintro h4
    replace h4 : ρ (.tmp 4) = .pointer (some ⟨w.heap.size, 0, none⟩) := h4.trans rfl
    exact rel_value (runLoad h4 (HBX.out.below hC)) hC
  refine ob_det (c := .agg #[.int .i64 sg, .int .i64 ex, .slice A n cap]) ?_ ?_
  · intro ρ W hk hC
    simp only [seen, obOp]
    rintro h5
    replace h5 : ρ (.tmp 5) = .pointer (some ⟨w.heap.size + 1, 0, none⟩) := h5.trans rfl
    exact rel_value (by simp [go_sem, h5, p0' W hC, p1' W hC, p2' W hC]) hC
  refine ob_det (c := .slice V vn vcap) ?_ ?_
  · intro ρ W hk hC
    simp only [seen, obOp]
    rintro h3
    replace h3 : ρ (.tmp 3) = .slice V vn vcap := h3.trans rfl
    exact rel_value (by simp [go_sem, h3]) hC
  refine ob_det (c := .int .i64 r) ?_ ?_
  · intro ρ W hk hC
    simp only [seen, obOp, List.getD_cons_zero, List.getD_cons_succ]
    rintro h23 h24 h25
    exact rel_call (f := 6) (args := #[.agg #[.slice a0 L.secs.length p0, .slice a1 L.sigs.length p1, .slice a2 L.exits.length p2, .slice a3 L.flanks.length p3, .int .i64 L.t0, .int .i64 L.t1, .int .i64 L.t2, .int .i64 L.t3, .int .i64 L.t4, .int .i64 L.t5, .int .i64 L.t6], .agg #[.int .i64 sg, .int .i64 ex, .slice A n cap], .slice V vn vcap]) (by simp [go_sem, h23, h24, h25, hk.func]) hC (HC.out.1 W hC)
  refine ob_det (c := .agg #[.slice a0 L.secs.length p0, .slice a1 L.sigs.length p1, .slice a2 L.exits.length p2, .slice a3 L.flanks.length p3, .int .i64 L.t0, .int .i64 L.t1, .int .i64 L.t2, .int .i64 L.t3, .int .i64 L.t4, .int .i64 L.t5, .int .i64 L.t6]) ?_ ?_
  · intro ρ W hk hC
    simp only [seen, obOp]
    rintro h4
    replace h4 : ρ (.tmp 4) = .pointer (some ⟨w.heap.size, 0, none⟩) := h4.trans rfl
    exact rel_value (runLoad h4 (HBX.out.below hC)) hC
  refine ob_det (c := .agg #[.int .i64 sg, .int .i64 ex, .slice A n cap]) ?_ ?_
  · intro ρ W hk hC
    simp only [seen, obOp]
    rintro h5
    replace h5 : ρ (.tmp 5) = .pointer (some ⟨w.heap.size + 1, 0, none⟩) := h5.trans rfl
    exact rel_value (by simp [go_sem, h5, p0' W hC, p1' W hC, p2' W hC]) hC
  refine ob_det (c := .slice V vn vcap) ?_ ?_
  · intro ρ W hk hC
    simp only [seen, obOp]
    rintro h3
    replace h3 : ρ (.tmp 3) = .slice V vn vcap := h3.trans rfl
    exact rel_value (by simp [go_sem, h3]) hC
  refine ob_det (c := .int .i64 r) ?_ ?_
  · intro ρ W hk hC
    simp only [seen, obOp, List.getD_cons_zero, List.getD_cons_succ]
    rintro h27 h28 h29
    exact rel_call (f := 7) (args := #[.agg #[.slice a0 L.secs.length p0, .slice a1 L.sigs.length p1, .slice a2 L.exits.length p2, .slice a3 L.flanks.length p3, .int .i64 L.t0, .int .i64 L.t1, .int .i64 L.t2, .int .i64 L.t3, .int .i64 L.t4, .int .i64 L.t5, .int .i64 L.t6], .agg #[.int .i64 sg, .int .i64 ex, .slice A n cap], .slice V vn vcap]) (by simp [go_sem, h27, h28, h29, hk.func]) hC (HC.out.2.1 W hC)
  refine ob_det (c := .bool true) ?_ ?_
  · intro ρ W hk hC
    simp only [seen, obOp, List.getD_cons_zero, List.getD_cons_succ]
    rintro h26 h30
    exact rel_value (by simp [go_sem, h26, h30]) hC
  refine ob_det (c := .bool true) ?_ ?_
  · intro ρ W hk hC
    simp only [seen, obOp, List.getD_cons_zero]
    rintro h31
    exact rel_value (by simp [go_sem, h31]) hC
  refine ob_det (c := .agg #[.slice a0 L.secs.length p0, .slice a1 L.sigs.length p1, .slice a2 L.exits.length p2, .slice a3 L.flanks.length p3, .int .i64 L.t0, .int .i64 L.t1, .int .i64 L.t2, .int .i64 L.t3, .int .i64 L.t4, .int .i64 L.t5, .int .i64 L.t6]) ?_ ?_
  · intro ρ W hk hC
    simp only [seen, obOp, List.getD_cons_zero]
    rintro h4 h32
    replace h4 : ρ (.tmp 4) = .pointer (some ⟨w.heap.size, 0, none⟩) := h4.trans rfl
    refine ⟨fun _ => ?_, fun hn => absurd h32 hn⟩
    exact rel_value (runLoad h4 (HBX.out.below hC)) hC
  refine ob_det (c := .agg #[.int .i64 sg, .int .i64 ex, .slice A n cap]) ?_ ?_
  · intro ρ W hk hC
    simp only [seen, obOp, List.getD_cons_zero, List.getD_cons_succ]
    rintro h5 h32
    replace h5 : ρ (.tmp 5) = .pointer (some ⟨w.heap.size + 1, 0, none⟩) := h5.trans rfl
    refine ⟨fun _ => ?_, fun hn => absurd h32 hn⟩
    exact rel_value (by simp [go_sem, h5, p0' W hC, p1' W hC, p2' W hC]) hC
  refine ob_det (c := .slice V vn vcap) ?_ ?_
  · intro ρ W hk hC
    simp only [seen, obOp, List.getD_cons_zero, List.getD_cons_succ]
    rintro h3 h32
    replace h3 : ρ (.tmp 3) = .slice V vn vcap := h3.trans rfl
    refine ⟨fun _ => ?_, fun hn => absurd h32 hn⟩
    exact rel_value (by simp [go_sem, h3]) hC
  refine ob_det (c := .bool (decide (r = 0))) ?_ ?_
  · intro ρ W hk hC
    simp only [seen, obOp, List.getD_cons_zero, List.getD_cons_succ]
    rintro h33 h34 h35 h32
    refine ⟨fun _ => ?_, fun hn => absurd h32 hn⟩
    exact rel_call (f := 8) (args := #[.agg #[.slice a0 L.secs.length p0, .slice a1 L.sigs.length p1, .slice a2 L.exits.length p2, .slice a3 L.flanks.length p3, .int .i64 L.t0, .int .i64 L.t1, .int .i64 L.t2, .int .i64 L.t3, .int .i64 L.t4, .int .i64 L.t5, .int .i64 L.t6], .agg #[.int .i64 sg, .int .i64 ex, .slice A n cap], .slice V vn vcap]) (by simp [go_sem, h33, h34, h35, hk.func]) hC (HC.out.2.2.1 W hC)
  refine ob_det (c := .agg #[.slice a0 L.secs.length p0, .slice a1 L.sigs.length p1, .slice a2 L.exits.length p2, .slice a3 L.flanks.length p3, .int .i64 L.t0, .int .i64 L.t1, .int .i64 L.t2, .int .i64 L.t3, .int .i64 L.t4, .int .i64 L.t5, .int .i64 L.t6]) ?_ ?_
  · intro ρ W hk hC
    simp only [seen, obOp, List.getD_cons_zero, List.getD_cons_succ]
    rintro h4 h32
    replace h4 : ρ (.tmp 4) = .pointer (some ⟨w.heap.size, 0, none⟩) := h4.trans rfl
    refine ⟨fun _ => ?_, fun hn => absurd h32 hn⟩
    exact rel_value (runLoad h4 (HBX.out.below hC)) hC
  refine ob_det (c := .agg #[.int .i64 sg, .int .i64 ex, .slice A n cap]) ?_ ?_
  · intro ρ W hk hC
    simp only [seen, obOp, List.getD_cons_zero, List.getD_cons_succ]
    rintro h5 h32
    replace h5 : ρ (.tmp 5) = .pointer (some ⟨w.heap.size + 1, 0, none⟩) := h5.trans rfl
    refine ⟨fun _ => ?_, fun hn => absurd h32 hn⟩
    exact rel_value (by simp [go_sem, h5, p0' W hC, p1' W hC, p2' W hC]) hC
  refine ob_det (c := .slice V vn vcap) ?_ ?_
  · intro ρ W hk hC
    simp only [seen, obOp, List.getD_cons_zero, List.getD_cons_succ]
    rintro h3 h32
    replace h3 : ρ (.tmp 3) = .slice V vn vcap := h3.trans rfl
    refine ⟨fun _ => ?_, fun hn => absurd h32 hn⟩
    exact rel_value (by simp [go_sem, h3]) hC
  refine ob_det (c := .bool (decide (r = 0))) ?_ ?_
  · intro ρ W hk hC
    simp only [seen, obOp, List.getD_cons_zero, List.getD_cons_succ]
    rintro h37 h38 h39 h32
    refine ⟨fun _ => ?_, fun hn => absurd h32 hn⟩
    exact rel_call (f := 9) (args := #[.agg #[.slice a0 L.secs.length p0, .slice a1 L.sigs.length p1, .slice a2 L.exits.length p2, .slice a3 L.flanks.length p3, .int .i64 L.t0, .int .i64 L.t1, .int .i64 L.t2, .int .i64 L.t3, .int .i64 L.t4, .int .i64 L.t5, .int .i64 L.t6], .agg #[.int .i64 sg, .int .i64 ex, .slice A n cap], .slice V vn vcap]) (by simp [go_sem, h37, h38, h39, hk.func]) hC (HC.out.2.2.2.1 W hC)
  refine ob_det (c := .bool true) ?_ ?_
  · intro ρ W hk hC
    simp only [seen, obOp, List.getD_cons_zero, List.getD_cons_succ]
    rintro h36 h40 h32
    refine ⟨fun _ => ?_, fun hn => absurd h32 hn⟩
    exact rel_value (by simp [go_sem, h36, h40]) hC
  refine ob_det (c := .bool true) ?_ ?_
  · intro ρ W hk hC
    simp only [seen, obOp, List.getD_cons_zero, List.getD_cons_succ]
    rintro h32 h41
    exact rel_value (by simp [go_sem, h32, h41, hk.const]) hC
  refine ob_det (c := .bool true) ?_ ?_
  · intro ρ W hk hC
    simp only [seen, obOp, List.getD_cons_zero]
    rintro h42
    exact rel_value (by simp [go_sem, h42]) hC
  refine ob_det (c := .agg #[.slice a0 L.secs.length p0, .slice a1 L.sigs.length p1, .slice a2 L.exits.length p2, .slice a3 L.flanks.length p3, .int .i64 L.t0, .int .i64 L.t1, .int .i64 L.t2, .int .i64 L.t3, .int .i64 L.t4, .int .i64 L.t5, .int .i64 L.t6]) ?_ ?_
  · intro ρ W hk hC
    simp only [seen, obOp, List.getD_cons_zero]
    rintro h4 h43
    replace h4 : ρ (.tmp 4) = .pointer (some ⟨w.heap.size, 0, none⟩) := h4.trans rfl
    refine ⟨fun _ => ?_, fun hn => absurd h43 hn⟩
    exact rel_value (runLoad h4 (HBX.out.below hC)) hC
  refine ob_det (c := .pointer (some ⟨w.heap.size + 1, 2, none⟩)) ?_ ?_
  · intro ρ W hk hC
    simp only [seen, obOp, List.getD_cons_zero, List.getD_cons_succ]
    rintro h5 h43
    replace h5 : ρ (.tmp 5) = .pointer (some ⟨w.heap.size + 1, 0, none⟩) := h5.trans rfl
    refine ⟨fun _ => ?_, fun hn => absurd h43 hn⟩
    exact rel_value (by simp [go_sem, h5]) hC
  refine ob_det (c := .slice A n cap) ?_ ?_
  · intro ρ W hk hC
    simp only [seen, obOp, List.getD_cons_zero, List.getD_cons_succ]
    rintro h45 h43
    refine ⟨fun _ => ?_, fun hn => absurd h43 hn⟩
    exact rel_value (by simp [go_sem, h45, p2' W hC]) hC
  refine ob_det (c := .bool qg) ?_ ?_
  · intro ρ W hk hC
    simp only [seen, obOp, List.getD_cons_zero, List.getD_cons_succ]
    rintro h44 h46 h43
    refine ⟨fun _ => ?_, fun hn => absurd h43 hn⟩
    exact rel_call (f := 10) (args := #[.agg #[.slice a0 L.secs.length p0, .slice a1 L.sigs.length p1, .slice a2 L.exits.length p2, .slice a3 L.flanks.length p3, .int .i64 L.t0, .int .i64 L.t1, .int .i64 L.t2, .int .i64 L.t3, .int .i64 L.t4, .int .i64 L.t5, .int .i64 L.t6], .slice A n cap]) (by simp [go_sem, h44, h46, hk.func]) hC (HC.out.2.2.2.2.1 W hC)
  refine ob_det (c := .agg #[.slice a0 L.secs.length p0, .slice a1 L.sigs.length p1, .slice a2 L.exits.length p2, .slice a3 L.flanks.length p3, .int .i64 L.t0, .int .i64 L.t1, .int .i64 L.t2, .int .i64 L.t3, .int .i64 L.t4, .int .i64 L.t5, .int .i64 L.t6]) ?_ ?_
  · intro ρ W hk hC
    simp only [seen, obOp, List.getD_cons_zero, List.getD_cons_succ]
    rintro h4 h43
    replace h4 : ρ (.tmp 4) = .pointer (some ⟨w.heap.size, 0, none⟩) := h4.trans rfl
    refine ⟨fun _ => ?_, fun hn => absurd h43 hn⟩
    exact rel_value (runLoad h4 (HBX.out.below hC)) hC
  refine ob_det (c := .pointer (some ⟨w.heap.size + 1, 2, none⟩)) ?_ ?_
  · intro ρ W hk hC
    simp only [seen, obOp, List.getD_cons_zero, List.getD_cons_succ]
    rintro h5 h43
    replace h5 : ρ (.tmp 5) = .pointer (some ⟨w.heap.size + 1, 0, none⟩) := h5.trans rfl
    refine ⟨fun _ => ?_, fun hn => absurd h43 hn⟩
    exact rel_value (by simp [go_sem, h5]) hC
  refine ob_det (c := .slice A n cap) ?_ ?_
  · intro ρ W hk hC
    simp only [seen, obOp, List.getD_cons_zero, List.getD_cons_succ]
    rintro h49 h43
    refine ⟨fun _ => ?_, fun hn => absurd h43 hn⟩
    exact rel_value (by simp [go_sem, h49, p2' W hC]) hC
  refine ob_det (c := .bool qg) ?_ ?_
  · intro ρ W hk hC
    simp only [seen, obOp, List.getD_cons_zero, List.getD_cons_succ]
    rintro h48 h50 h43
    refine ⟨fun _ => ?_, fun hn => absurd h43 hn⟩
    exact rel_call (f := 11) (args := #[.agg #[.slice a0 L.secs.length p0, .slice a1 L.sigs.length p1, .slice a2 L.exits.length p2, .slice a3 L.flanks.length p3, .int .i64 L.t0, .int .i64 L.t1, .int .i64 L.t2, .int .i64 L.t3, .int .i64 L.t4, .int .i64 L.t5, .int .i64 L.t6], .slice A n cap]) (by simp [go_sem, h48, h50, hk.func]) hC (HC.out.2.2.2.2.2.1 W hC)
  refine ob_det (c := .bool true) ?_ ?_
  · intro ρ W hk hC
    simp only [seen, obOp, List.getD_cons_zero, List.getD_cons_succ]
    rintro h47 h51 h43
    refine ⟨fun _ => ?_, fun hn => absurd h43 hn⟩
    exact rel_value (by simp [go_sem, h47, h51]) hC
  refine ob_det (c := .bool true) ?_ ?_
  · intro ρ W hk hC
    simp only [seen, obOp, List.getD_cons_zero, List.getD_cons_succ]
    rintro h43 h52
    exact rel_value (by simp [go_sem, h43, h52, hk.const]) hC
  refine ob_det (c := .bool true) ?_ ?_
  · intro ρ W hk hC
    simp only [seen, obOp, List.getD_cons_zero]
    rintro h53
    exact rel_value (by simp [go_sem, h53]) hC
  refine ob_det (c := .agg #[.int .i64 sg, .int .i64 ex, .slice A n cap]) ?_ ?_
  · intro ρ W hk hC
    simp only [seen, obOp, List.getD_cons_zero]
    rintro h5 h54
    replace h5 : ρ (.tmp 5) = .pointer (some ⟨w.heap.size + 1, 0, none⟩) := h5.trans rfl
    refine ⟨fun _ => ?_, fun hn => absurd h54 hn⟩
    exact rel_value (by simp [go_sem, h5, p0' W hC, p1' W hC, p2' W hC]) hC
  refine ob_det (c := .slice V vn vcap) ?_ ?_
  · intro ρ W hk hC
    simp only [seen, obOp, List.getD_cons_zero, List.getD_cons_succ]
    rintro h3 h54
    replace h3 : ρ (.tmp 3) = .slice V vn vcap := h3.trans rfl
    refine ⟨fun _ => ?_, fun hn => absurd h54 hn⟩
    exact rel_value (by simp [go_sem, h3]) hC
  refine ob_det (c := .bool qh) ?_ ?_
  · intro ρ W hk hC
    simp only [seen, obOp, List.getD_cons_zero, List.getD_cons_succ]
    rintro h55 h56 h54
    refine ⟨fun _ => ?_, fun hn => absurd h54 hn⟩
    exact rel_call (f := 12) (args := #[.agg #[.int .i64 sg, .int .i64 ex, .slice A n cap], .slice V vn vcap]) (by simp [go_sem, h55, h56, hk.func]) hC (HC.out.2.2.2.2.2.2.1 W hC)
  refine ob_det (c := .agg #[.int .i64 sg, .int .i64 ex, .slice A n cap]) ?_ ?_
  · intro ρ W hk hC
    simp only [seen, obOp, List.getD_cons_zero, List.getD_cons_succ]
    rintro h5 h54
    replace h5 : ρ (.tmp 5) = .pointer (some ⟨w.heap.size + 1, 0, none⟩) := h5.trans rfl
    refine ⟨fun _ => ?_, fun hn => absurd h54 hn⟩
    exact rel_value (by simp [go_sem, h5, p0' W hC, p1' W hC, p2' W hC]) hC
  refine ob_det (c := .slice V vn vcap) ?_ ?_
  · intro ρ W hk hC
    simp only [seen, obOp, List.getD_cons_zero, List.getD_cons_succ]
    rintro h3 h54
    replace h3 : ρ (.tmp 3) = .slice V vn vcap := h3.trans rfl
    refine ⟨fun _ => ?_, fun hn => absurd h54 hn⟩
    exact rel_value (by simp [go_sem, h3]) hC
  refine ob_det (c := .bool qh) ?_ ?_
  · intro ρ W hk hC
    simp only [seen, obOp, List.getD_cons_zero, List.getD_cons_succ]
    rintro h58 h59 h54
    refine ⟨fun _ => ?_, fun hn => absurd h54 hn⟩
    exact rel_call (f := 13) (args := #[.agg #[.int .i64 sg, .int .i64 ex, .slice A n cap], .slice V vn vcap]) (by simp [go_sem, h58, h59, hk.func]) hC (HC.out.2.2.2.2.2.2.2.1 W hC)
  refine ob_det (c := .bool true) ?_ ?_
  · intro ρ W hk hC
    simp only [seen, obOp, List.getD_cons_zero, List.getD_cons_succ]
    rintro h57 h60 h54
    refine ⟨fun _ => ?_, fun hn => absurd h54 hn⟩
    exact rel_value (by simp [go_sem, h57, h60]) hC
  refine ob_det (c := .bool true) ?_ ?_
  · intro ρ W hk hC
    simp only [seen, obOp, List.getD_cons_zero, List.getD_cons_succ]
    rintro h54 h61
    exact rel_value (by simp [go_sem, h54, h61, hk.const]) hC
  refine ob_det (c := .bool true) ?_ ?_
  · intro ρ W hk hC
    simp only [seen, obOp, List.getD_cons_zero]
    rintro h62
    exact rel_value (by simp [go_sem, h62]) hC
  refine ob_det (c := .agg #[.int .i64 sg, .int .i64 ex, .slice A n cap]) ?_ ?_
  · intro ρ W hk hC
    simp only [seen, obOp, List.getD_cons_zero]
    rintro h5 h63
    replace h5 : ρ (.tmp 5) = .pointer (some ⟨w.heap.size + 1, 0, none⟩) := h5.trans rfl
    refine ⟨fun _ => ?_, fun hn => absurd h63 hn⟩
    exact rel_value (by simp [go_sem, h5, p0' W hC, p1' W hC, p2' W hC]) hC
  refine ⟨fun v w' => ∃ BA bc, v = .agg #[.int .i64 sg, .int .i64 ex, .slice BA n bc] ∧ At w' 3 Stp.enc BA xs, fun v w' w'' ⟨BA, bc, e, h⟩ hb => ⟨BA, bc, e, h.below hb⟩, ?_, ?_⟩
  · intro ρ W hk hC
    simp only [seen, obOp, List.getD_cons_zero, List.getD_cons_succ]
    rintro h64 h63
    refine ⟨fun _ => ?_, fun hn => absurd h63 hn⟩
    refine rel_enter (f := 15) (args := #[.agg #[.int .i64 sg, .int .i64 ex, .slice A n cap]]) (by simp [go_sem, h64, hk.func]) ((HC.out.2.2.2.2.2.2.2.2.1 W hC).mono ?_)
    rintro e w9 ⟨v, rfl, ⟨BA, bc, rfl, _, _, hbA⟩, b9⟩
    exact ⟨_, rfl, hC.step b9, b9, BA, bc, by rw [← HQ.out.1], hbA⟩
  refine ob_det (c := .agg #[.int .i64 sg, .int .i64 ex, .slice A n cap]) ?_ ?_
  · intro ρ W hk hC
    simp only [seen, obOp, List.getD_cons_zero, List.getD_cons_succ]
    rintro h5 h63
    replace h5 : ρ (.tmp 5) = .pointer (some ⟨w.heap.size + 1, 0, none⟩) := h5.trans rfl
    refine ⟨fun _ => ?_, fun hn => absurd h63 hn⟩
    exact rel_value (by simp [go_sem, h5, p0' W hC, p1' W hC, p2' W hC]) hC
  refine ob_det (c := .bool true) ?_ ?_
  · intro ρ W hk hC
    simp only [seen, obOp, List.getD_cons_zero, List.getD_cons_succ]
    rintro ⟨BA, bc, h65, hbA⟩ h66 h63
    refine ⟨fun _ => ?_, fun hn => absurd h63 hn⟩
    exact rel_call (f := 14) (args := #[.agg #[.int .i64 sg, .int .i64 ex, .slice BA n bc], .agg #[.int .i64 sg, .int .i64 ex, .slice A n cap]]) (by simp [go_sem, h65, h66, hk.func]) hC (HC.out.2.2.2.2.2.2.2.2.2.1 W BA bc hC hbA)
  refine ob_det (c := .bool true) ?_ ?_
  · intro ρ W hk hC
    simp only [seen, obOp, List.getD_cons_zero, List.getD_cons_succ]
    rintro h63 h67
    exact rel_value (by simp [go_sem, h63, h67, hk.const]) hC
  refine ob_det (c := .bool true) ?_ ?_
  · intro ρ W hk hC
    simp only [seen, obOp, List.getD_cons_zero]
    rintro h68
    exact rel_value (by simp [go_sem, h68]) hC
  refine ob_det (c := .agg #[.int .i64 sg, .int .i64 ex, .slice A n cap]) ?_ ?_
  · intro ρ W hk hC
    simp only [seen, obOp, List.getD_cons_zero]
    rintro h5 h69
    replace h5 : ρ (.tmp 5) = .pointer (some ⟨w.heap.size + 1, 0, none⟩) := h5.trans rfl
    refine ⟨fun _ => ?_, fun hn => absurd h69 hn⟩
    exact rel_value (by simp [go_sem, h5, p0' W hC, p1' W hC, p2' W hC]) hC
  refine ob_det (c := .agg #[.int .i64 sg', .int .i64 ex', .slice A' n' cap']) ?_ ?_
  · intro ρ W hk hC
    simp only [seen, obOp, List.getD_cons_zero, List.getD_cons_succ]
    rintro h6 h69
    replace h6 : ρ (.tmp 6) = .pointer (some ⟨w.heap.size + 1 + 1, 0, none⟩) := h6.trans rfl
    refine ⟨fun _ => ?_, fun hn => absurd h69 hn⟩
    exact rel_value (by simp [go_sem, h6, u0 W hC, u1 W hC, u2 W hC]) hC
  refine ob_det (c := .bool qs) ?_ ?_
  · intro ρ W hk hC
    simp only [seen, obOp, List.getD_cons_zero, List.getD_cons_succ]
    rintro h70 h71 h69
    refine ⟨fun _ => ?_, fun hn => absurd h69 hn⟩
    exact rel_call (f := 16) (args := #[.agg #[.int .i64 sg, .int .i64 ex, .slice A n cap], .agg #[.int .i64 sg', .int .i64 ex', .slice A' n' cap']]) (by simp [go_sem, h70, h71, hk.func]) hC (HC.out.2.2.2.2.2.2.2.2.2.2.1 W hC)
  refine ob_det (c := .agg #[.int .i64 sg, .int .i64 ex, .slice A n cap]) ?_ ?_
  · intro ρ W hk hC
    simp only [seen, obOp, List.getD_cons_zero, List.getD_cons_succ]
    rintro h5 h69
    replace h5 : ρ (.tmp 5) = .pointer (some ⟨w.heap.size + 1, 0, none⟩) := h5.trans rfl
    refine ⟨fun _ => ?_, fun hn => absurd h69 hn⟩
    exact rel_value (by simp [go_sem, h5, p0' W hC, p1' W hC, p2' W hC]) hC
  refine ob_det (c := .agg #[.int .i64 sg', .int .i64 ex', .slice A' n' cap']) ?_ ?_
  · intro ρ W hk hC
    simp only [seen, obOp, List.getD_cons_zero, List.getD_cons_succ]
    rintro h6 h69
    replace h6 : ρ (.tmp 6) = .pointer (some ⟨w.heap.size + 1 + 1, 0, none⟩) := h6.trans rfl
    refine ⟨fun _ => ?_, fun hn => absurd h69 hn⟩
    exact rel_value (by simp [go_sem, h6, u0 W hC, u1 W hC, u2 W hC]) hC
  refine ob_det (c := .bool qs) ?_ ?_
  · intro ρ W hk hC
    simp only [seen, obOp, List.getD_cons_zero, List.getD_cons_succ]
    rintro h73 h74 h69
    refine ⟨fun _ => ?_, fun hn => absurd h69 hn⟩
    exact rel_call (f := 14) (args := #[.agg #[.int .i64 sg, .int .i64 ex, .slice A n cap], .agg #[.int .i64 sg', .int .i64 ex', .slice A' n' cap']]) (by simp [go_sem, h73, h74, hk.func]) hC (HC.out.2.2.2.2.2.2.2.2.2.2.2.1 W hC)
  refine ob_det (c := .bool true) ?_ ?_
  · intro ρ W hk hC
    simp only [seen, obOp, List.getD_cons_zero, List.getD_cons_succ]
    rintro h72 h75 h69
    refine ⟨fun _ => ?_, fun hn => absurd h69 hn⟩
    exact rel_value (by simp [go_sem, h72, h75]) hC
  refine ob_det (c := .bool true) ?_ ?_
  · intro ρ W hk hC
    simp only [seen, obOp, List.getD_cons_zero, List.getD_cons_succ]
    rintro h69 h76
    exact rel_value (by simp [go_sem, h69, h76, hk.const]) hC
  refine ob_det (c := .bool true) ?_ ?_
  · intro ρ W hk hC
    simp only [seen, obOp, List.getD_cons_zero]
    rintro h77
    exact rel_value (by simp [go_sem, h77]) hC
  refine ob_det (c := .bool true) ?_ ?_
  · intro ρ W hk hC
    simp only [seen, obOp, List.getD_cons_zero]
    rintro h78
    refine ⟨fun _ => ?_, fun hn => absurd h78 hn⟩
    exact rel_call (f := 5) (args := #[]) (by simp [go_sem, hk.func]) hC (HC.out.2.2.2.2.2.2.2.2.2.2.2.2 W hC)
  refine ob_det (c := .bool true) ?_ ?_
  · intro ρ W hk hC
    simp only [seen, obOp, List.getD_cons_zero, List.getD_cons_succ]
    rintro h78 h79
    exact rel_value (by simp [go_sem, h78, h79, hk.const]) hC
  refine ob_det (c := .bool true) ?_ ?_
  · intro ρ W hk hC
    simp only [seen, obOp, List.getD_cons_zero]
    rintro h80
    exact rel_value (by simp [go_sem, h80]) hC
  intro vs6 w14 hC14
  simp only [endSeen, List.getD_cons_zero]
  intro h8
  simp only [writeAll, List.setIfInBounds_toArray, List.set_cons_zero, List.set_cons_succ, h8]
  go_wp2
  go_ret
  exact ⟨rfl, bchain HY.out hC14⟩
end Go.Proofs.YtpcojaoeahdgcaaGreatDoor

/-
  RouteTells: which paths are Route paths, which steps go, which vias are gone through, the same: route answers as lockbarref11.
  Conditions: port.kinds and port.none (and join.end, where it is listed) start as the program's text lays them (the tied card; it ties them to the pruned copy that the seat holds).
-/
namespace Go.Proofs.YtpcojaoeahdgcaaGreatDoor
open Go.RowKit Go.WideShapes Go.ChangeShapes Go.ChangeAt Go.WideMaps Go.WideElems Go.Joins Go.Deep

set_option maxRecDepth 100000 in
theorem routeTells_lifted (os : Os) (started : os.Started) (H : Type) (enc : TypeId × Value → H) :
    ReturnsInHanded {} Tryz.checked os 3 .any (fun w args => (Rows.routeTellsSpec.pre enc Tryz.prog Tryz.f3 [] false w args ∧ laidMetH Tryz.prog laidL w) ∧ sizedMet enc Tryz.prog Tryz.f3 (OpenSpec.ofChange Rows.routeTellsSpec) false w args)
      (Rows.routeTellsSpec.post enc Tryz.prog Tryz.f3 false true false false) := by
  refine law_lifted_laid (C := Tryz.checked) (tb := 4) ownP started (by kernel_rfl) Tryz.func3
    (ChangeSpec.witness_shaped (enc := enc) (C := Tryz.checked) (os := os) (X := fun w _ => laidMetH Tryz.prog laidL w) false (World.doorLaid Tryz.prog 400 os) #[.agg #[.slice none 0 0, .slice none 0 0, .slice none 0 0, .slice none 0 0, .int .i64 0, .int .i64 0, .int .i64 0, .int .i64 0, .int .i64 0, .int .i64 0, .int .i64 0], .agg #[.int .i64 0, .int .i64 0, .slice none 0 0], .agg #[.int .i64 0, .int .i64 0, .slice none 0 0], .slice none 0 0] 8 rfl (World.shaped_of_RefB (by kernel_rfl) (by kernel_rfl)) (by kernel_rfl) (by kernel_rfl) (by kernel_rfl) (door_met os _))
    laidP (by kernel_rfl) rfl rfl Tryz.underlying4 ?_
  intro W base args ds p hval0 hA0 hlt hL
  have hval : ∀ (j : Nat) t v, Tryz.f3.params[j]? = some t → args[j]? = some v → Value.okWide Tryz.prog W .any base t v := hval0
  have hA : DataW.TrodAll enc Tryz.prog W 0 (fun _ => true) true Tryz.f3.params.toList args.toList ds p := hA0
  clear hval0 hA0
  rw [Tryz.params3] at hA hval
  obtain ⟨vs⟩ := args
  dsimp only at hA
  obtain ⟨v0, vs0, d0, ds0, p0, q0, rfl, rfl, rfl, h0, hA⟩ := trodAll_cons hA
  obtain ⟨v1, vs1, d1, ds1, p1, q1, rfl, rfl, rfl, h1, hA⟩ := trodAll_cons hA
  obtain ⟨v2, vs2, d2, ds2, p2, q2, rfl, rfl, rfl, h2, hA⟩ := trodAll_cons hA
  obtain ⟨v3, vs3, d3, ds3, p3, q3, rfl, rfl, rfl, h3, hA⟩ := trodAll_cons hA
  obtain ⟨rfl, rfl, rfl⟩ := trodAll_nil hA
  obtain ⟨L0, w0, rfl, hl0⟩ := open_layout (hval 0 29 v0 rfl rfl) h0
  obtain ⟨sg1, ex1, A1, cap1, xs1, rfl, hA1, hl1, hm1⟩ := open_path (hval 1 32 v1 rfl rfl) h1
  obtain ⟨sg2, ex2, A2, cap2, xs2, rfl, hA2, hl2, hm2⟩ := open_path (hval 2 32 v2 rfl rfl) h2
  obtain ⟨V3, vcap3, zs3, rfl, hV3, hv3, hvm3⟩ := open_intsV (hval 3 33 v3 rfl rfl) h3
  exact ⟨⟨rfl, rfl, rfl⟩, routeTells_walk L0 w0 sg1 ex1 A1 cap1 xs1 sg2 ex2 A2 cap2 xs2 V3 vcap3 zs3 W hl0 hA1 hl1 hm1 hA2 hl2 hm2 hV3 hv3 hvm3 (kinds_of_laid hL)⟩

theorem routeTells_holds : Rows.RouteTellsSaid :=
  OpenClaim.holds_of_wide 3 Tryz.f3 rfl rfl rfl rfl rfl rfl rfl ⟨rfl, rfl, rfl, rfl, rfl⟩ rfl rfl rfl rfl rfl (by kernel_rfl) Tryz.func3 (by kernel_rfl)
    (of_decide_eq_true (by kernel_rfl)) (by unfold Func.isWrapper; first | (rw [if_pos (by decide +kernel)]; kernel_rfl) | (rw [if_neg (of_decide_eq_false (by kernel_rfl))]; exact ⟨rfl, rfl⟩))
    (fun os started H enc _ => routeTells_lifted os started H enc)

theorem routeTells_card : Rows.RouteTellsCardSaid :=
  Claim7.holds_tied_plain_at .later [] [.data, .data, .data] true (true, "9bdda15eb5e79e4dd1b87e27d980966ad00243ffe7fceca9a20ec91886e337e4") false
    routeTells_holds (fun _ h => by cases h) (by kernel_rfl) (fun _ h => by cases h) routeTells_row_tie rfl ⟨rfl, rfl⟩ (by kernel_rfl) rfl
    (fun f fn hf hfn => by
      obtain rfl : f = 3 := Option.some.inj ((show Tryz.prog.funcNamed "lockbar/lockbarlaw11.RouteTells" = some 3 by kernel_rfl).symm.trans hf) |>.symm
      obtain rfl : fn = Tryz.f3 := (Option.some.inj (Tryz.func3.symm.trans hfn)).symm
      exact ⟨by kernel_rfl, fun j t ht => by
        rw [Tryz.params3] at ht
        have hm : t ∈ [29, 32, 32, 33] := by simpa using Array.mem_of_getElem? ht
        have hall : ([29, 32, 32, 33].all fun u => !Tryz.prog.wantsStandIn u) = true := by kernel_rfl
        exact (show Tryz.prog.wantsStandIn t = false by simpa using List.all_eq_true.1 hall t hm)⟩)
    (by kernel_rfl)
#print axioms routeTells_card
end Go.Proofs.YtpcojaoeahdgcaaGreatDoor
