/-
  layout.Signal, Exit; lockbarref06.Signal, Exit, Great.
-/
import Derived.Test.YtkphihbimdffjaaDoorIdx
namespace Go.Proofs.YtkphihbimdffjaaDoor
open Go.RowKit Go.Shelf

def sameP (a b s q : Int) : Bool := decide (a = s ∧ b = q)
def sigIx (L : Lay) (s q : Int) : Int := idxOf' (fun x : Prt => sameP x.s x.p s q) L.sigs
def exIx (L : Lay) (s q : Int) : Int := idxOf' (fun x : Ext' => sameP x.s x.p s q) L.exits
theorem idx_map {α β : Type} (f : α → β) (p : β → Bool) (xs : List α) : idxOf' (fun x => p (f x)) xs = idxOf' p (xs.map f) := by
  unfold idxOf'
  rw [List.findIdx?_map]
  rfl
theorem sameP_t {a b s q : Int} (h : a = s ∧ b = q) : sameP a b s q = true := decide_eq_true h
theorem sameP_f {a b s q : Int} (h : ¬ (a = s ∧ b = q)) : sameP a b s q = false := decide_eq_false h

set_option maxHeartbeats 1000000 in
theorem signal1_any (a b s q : Int) (g : Nat) (w : World) (l : g < w.heap.size) (c0 : w.cell? ⟨g, 0, none⟩ = some (.int .i64 s)) (c1 : w.cell? ⟨g, 1, none⟩ = some (.int .i64 q)) :
    Calls Tryd.prog 31 #[.agg #[.int .i64 a, .int .i64 b], .pointer (some ⟨g, 0, none⟩)] w fun e w' => e = .returned (.bool (sameP a b s q)) ∧ Below w.heap.size w w' := by
  by_cases h1 : a = s
  · subst h1
    by_cases h2 : b = q
    · subst h2
      rw [sameP_t ⟨rfl, rfl⟩]
      go_enter Tryd.func31, Tryd.ntmps31
      go_wp2
      go_ret
      exact ⟨rfl, bself⟩
    · rw [sameP_f (fun h => h2 h.2)]
      go_enter Tryd.func31, Tryd.ntmps31
      go_wp2
      go_ret
      exact ⟨rfl, bself⟩
  · rw [sameP_f (fun h => h1 h.1)]
    go_enter Tryd.func31, Tryd.ntmps31
    go_wp2
    go_ret
    exact ⟨rfl, bself⟩

set_option maxHeartbeats 1000000 in
theorem exit1_any (a b s q : Int) (v : Value) (g : Nat) (w : World) (l : g < w.heap.size) (c0 : w.cell? ⟨g, 0, none⟩ = some (.int .i64 s)) (c1 : w.cell? ⟨g, 1, none⟩ = some (.int .i64 q)) :
    Calls Tryd.prog 33 #[.agg #[.int .i64 a, .int .i64 b, v], .pointer (some ⟨g, 0, none⟩)] w fun e w' => e = .returned (.bool (sameP a b s q)) ∧ Below w.heap.size w w' := by
  by_cases h1 : a = s
  · subst h1
    by_cases h2 : b = q
    · subst h2
      rw [sameP_t ⟨rfl, rfl⟩]
      go_enter Tryd.func33, Tryd.ntmps33
      go_wp2
      go_ret
      exact ⟨rfl, bself⟩
    · rw [sameP_f (fun h => h2 h.2)]
      go_enter Tryd.func33, Tryd.ntmps33
      go_wp2
      go_ret
      exact ⟨rfl, bself⟩
  · rw [sameP_f (fun h => h1 h.1)]
    go_enter Tryd.func33, Tryd.ntmps33
    go_wp2
    go_ret
    exact ⟨rfl, bself⟩

set_option maxRecDepth 100000 in
set_option maxHeartbeats 2000000 in
theorem signal_any (L : Lay) (p : Where) (s q : Int) (w : World) (hL : LayAt w p L) :
    Calls Tryd.prog 14 #[L.val p, .agg #[.int .i64 s, .int .i64 q]] w fun e w' => e = .returned (.int .i64 (sigIx L s q)) ∧ Below w.heap.size w w' := by
  have hi := fun w1 (b1 : Below w.heap.size w w1) (g : Nat) (l : g < w1.heap.size) (c0 : w1.cell? ⟨g, 0, none⟩ = some (.int .i64 s)) (c1 : w1.cell? ⟨g, 1, none⟩ = some (.int .i64 q)) =>
    indexSignal_any 31 #[.pointer (some ⟨g, 0, none⟩)] (enters_of Tryd.func31 (by kernel_rfl) rfl) (fun x : Prt => sameP x.s x.p s q) p.a1 p.c1 L.sigs w1 (hL.sigs.below b1) hL.l1.1 hL.l1.2
      (fun W x _ hb => signal1_any x.s x.p s q g W (Nat.lt_of_lt_of_le l hb.size) ((hb.cell (p := ⟨g, 0, none⟩) l).trans c0) ((hb.cell (p := ⟨g, 1, none⟩) l).trans c1))
  change ∀ w1, _ → ∀ g, _ → _ → _ → Calls _ _ _ w1 fun e w' => e = .returned (.int .i64 (sigIx L s q)) ∧ _ at hi
  generalize sigIx L s q = r at hi ⊢
  have HI := Lib.hid hi
  clear hi hL
  unfold Lay.val
  go_enter Tryd.func14, Tryd.ntmps14
  go_wp2_with fail
  refine (HI.out _ (bchain bself bself) (w.heap.size + 1) (by simp) (by simp [go_sem]) (by simp [go_sem])).mono ?_
  rintro e w1 ⟨rfl, b1⟩
  go_wp2
  go_ret
  exact ⟨rfl, bchain (bchain bself bself) b1⟩

set_option maxRecDepth 100000 in
set_option maxHeartbeats 2000000 in
theorem exit_any (L : Lay) (p : Where) (s q : Int) (w : World) (hL : LayAt w p L) :
    Calls Tryd.prog 16 #[L.val p, .agg #[.int .i64 s, .int .i64 q]] w fun e w' => e = .returned (.int .i64 (exIx L s q)) ∧ Below w.heap.size w w' := by
  obtain ⟨es, hes, hAt, _⟩ := hL.exits
  have hlen : es.length = L.exits.length := by rw [← hes, List.length_map]
  have hi := fun w1 (b1 : Below w.heap.size w w1) (g : Nat) (l : g < w1.heap.size) (c0 : w1.cell? ⟨g, 0, none⟩ = some (.int .i64 s)) (c1 : w1.cell? ⟨g, 1, none⟩ = some (.int .i64 q)) =>
    indexExit_any 33 #[.pointer (some ⟨g, 0, none⟩)] (enters_of Tryd.func33 (by kernel_rfl) rfl) (fun x : Ext' × Value => sameP x.1.s x.1.p s q) p.a2 p.c2 es w1 (hAt.below b1) (by rw [hlen]; exact hL.l2.1) hL.l2.2
      (fun W x _ hb => exit1_any x.1.s x.1.p s q x.2 g W (Nat.lt_of_lt_of_le l hb.size) ((hb.cell (p := ⟨g, 0, none⟩) l).trans c0) ((hb.cell (p := ⟨g, 1, none⟩) l).trans c1))
  rw [idx_map (fun e : Ext' × Value => e.1) (fun x : Ext' => sameP x.s x.p s q) es, hes, hlen] at hi
  change ∀ w1, _ → ∀ g, _ → _ → _ → Calls _ _ _ w1 fun e w' => e = .returned (.int .i64 (exIx L s q)) ∧ _ at hi
  clear hes hAt hlen
  generalize exIx L s q = r at hi ⊢
  have HI := Lib.hid hi
  clear hi hL
  unfold Lay.val
  go_enter Tryd.func16, Tryd.ntmps16
  go_wp2_with fail
  refine (HI.out _ (bchain bself bself) (w.heap.size + 1) (by simp) (by simp [go_sem]) (by simp [go_sem])).mono ?_
  rintro e w1 ⟨rfl, b1⟩
  go_wp2
  go_ret
  exact ⟨rfl, bchain (bchain bself bself) b1⟩

set_option maxRecDepth 100000 in
set_option maxHeartbeats 2000000 in
theorem rSignal_any (L : Lay) (p : Where) (s q : Int) (w : World) (hL : LayAt w p L) :
    Calls Tryd.prog 15 #[L.val p, .agg #[.int .i64 s, .int .i64 q]] w fun e w' => e = .returned (.int .i64 (sigIx L s q)) ∧ Below w.heap.size w w' := by
  have hX : (∀ (n : Nat) x, L.sigs[n]? = some x → sameP x.s x.p s q = true → (∀ (j : Nat), j < n → ∀ y, L.sigs[j]? = some y → sameP y.s y.p s q = false) → sigIx L s q = n) ∧ ((∀ (j : Nat), j < L.sigs.length → ∀ y, L.sigs[j]? = some y → sameP y.s y.p s q = false) → sigIx L s q = -1) :=
    ⟨fun n x hx hp ha => idx_hit hx hp ha, fun ha => idx_miss ha⟩
  generalize sigIx L s q = r at hX ⊢
  have HX := Lib.hid hX
  have hm : L.sigs.length ≤ 9223372036854775807 := Nat.le_trans hL.l1.1 hL.l1.2
  obtain ⟨a0, a1, a2, a3, p0, p1, p2, p3⟩ := p
  have HL := Lib.hid hL
  clear hX hL
  unfold Lay.val
  go_enter Tryd.func15, Tryd.ntmps15
  go_wp2_with fail
  obtain ⟨W, hW⟩ : ∃ W, W = (w.alloc (.cells #[.slice a0 L.secs.length p0, .slice a1 L.sigs.length p1, .slice a2 L.exits.length p2, .slice a3 L.flanks.length p3, .int .i64 L.t0, .int .i64 L.t1, .int .i64 L.t2, .int .i64 L.t3, .int .i64 L.t4, .int .i64 L.t5, .int .i64 L.t6] 29)).alloc (.cells #[.int .i64 s, .int .i64 q] 31) := ⟨_, rfl⟩
  have hB : Below w.heap.size w W := by rw [hW]; exact bchain bself bself
  have u0 : W.cell? ⟨w.heap.size, 1, none⟩ = some (.slice a1 L.sigs.length p1) := by rw [hW]; simp [go_sem]
  have u1 : W.cell? ⟨w.heap.size + 1, 0, none⟩ = some (.int .i64 s) := by rw [hW]; simp [go_sem]
  have u2 : W.cell? ⟨w.heap.size + 1, 1, none⟩ = some (.int .i64 q) := by rw [hW]; simp [go_sem]
  have lw : w.heap.size + 1 < W.heap.size := by rw [hW]; simp
  have lw0 : w.heap.size < W.heap.size := by omega
  rw [← hW]
  have HB := Lib.hid hB
  clear hW hB
  go_loopg [5] L.sigs.length (fun gg s5 wr => ∃ n : Nat, n ≤ L.sigs.length ∧ L.sigs.length - n ≤ gg ∧ s5 = .int .i64 n ∧ Hid (Below W.heap.size W wr) ∧ Hid (∀ (j : Nat), j < n → ∀ y, L.sigs[j]? = some y → sameP y.s y.p s q = false))
  case atStart => exact ⟨0, Nat.zero_le _, by omega, rfl, Lib.hid (Below.refl _ _), Lib.hid (fun j hj => absurd hj (Nat.not_lt_zero _))⟩
  case round =>
    obtain ⟨n, hn, hg, rfl, HBr, HJ⟩ := hrel
    have v0 := (HBr.out.cell (p := ⟨w.heap.size, 1, none⟩) lw0).trans u0
    have v1 := (HBr.out.cell (p := ⟨w.heap.size + 1, 0, none⟩) lw).trans u1
    have v2 := (HBr.out.cell (p := ⟨w.heap.size + 1, 1, none⟩) lw).trans u2
    have lv : w.heap.size + 1 < wr.heap.size := Nat.lt_of_lt_of_le lw HBr.out.size
    have lv0 : w.heap.size < wr.heap.size := by omega
    clear u0 u1 u2
    by_cases hlt : n < L.sigs.length
    · have hBw := bchain HB.out HBr.out
      obtain ⟨b, off, hAe, h0, hrow⟩ := HL.out.sigs.get hlt
      subst hAe
      obtain ⟨x, hx⟩ : ∃ x, L.sigs[n]? = some x := ⟨L.sigs[n], List.getElem?_eq_getElem hlt⟩
      have g0 := hrow n x hx 0 _ rfl
      have g1 := hrow n x hx 1 _ rfl
      have c0 := (hBw.cell (p := ⟨b, off + n * 2, none⟩) h0).trans g0
      have c1 := (hBw.cell (p := ⟨b, off + n * 2 + 1, none⟩) h0).trans g1
      have lb : b < wr.heap.size := Nat.lt_of_lt_of_le h0 hBw.size
      have HXX := Lib.hid hx
      clear g0 g1 hrow hx hBw HL
      obtain ⟨xs, xp⟩ := x
      dsimp only at c0 c1
      by_cases h1 : xs = s ∧ xp = q
      · obtain ⟨h1, h2⟩ := h1
        obtain rfl := HX.out.1 n _ HXX.out (sameP_t ⟨h1, h2⟩) HJ.out
        subst h1 h2
        go_wp2_with fail
        refine wp_region_ext (by kernel_rfl) (by kernel_rfl) fun hx => ?_
        repeat (go_big_quiet_step (fail))
        refine wpQuiet_nil ?_
        intro w5 b5
        go_wp2
        go_ret
        exact ⟨rfl, bchain (bchain HB.out HBr.out) b5⟩
      · have HF := Lib.hid (sameP_f h1)
        have h1' : ¬ xs = s ∨ (xs = s ∧ ¬ xp = q) := by omega
        clear h1
        rcases h1' with h1 | ⟨h1, h2⟩
        · go_wp2_with fail
          refine wp_region_ext (by kernel_rfl) (by kernel_rfl) fun hx => ?_
          repeat (go_big_quiet_step (fail))
          refine wpQuiet_nil ?_
          intro w5 b5
          go_wp2
          go_roundg (L.sigs.length - (n + 1))
          case measure => omega
          case rel =>
            refine ⟨n + 1, by omega, by omega, by go_num, Lib.hid (bchain HBr.out b5), Lib.hid (fun j hj z hz => ?_)⟩
            by_cases e : j = n
            · subst e
              rw [HXX.out] at hz
              cases hz
              exact HF.out
            · exact HJ.out j (by omega) z hz
        · subst h1
          go_wp2_with fail
          refine wp_region_ext (by kernel_rfl) (by kernel_rfl) fun hx => ?_
          repeat (go_big_quiet_step (fail))
          refine wpQuiet_nil ?_
          intro w5 b5
          go_wp2
          go_roundg (L.sigs.length - (n + 1))
          case measure => omega
          case rel =>
            refine ⟨n + 1, by omega, by omega, by go_num, Lib.hid (bchain HBr.out b5), Lib.hid (fun j hj z hz => ?_)⟩
            by_cases e : j = n
            · subst e
              rw [HXX.out] at hz
              cases hz
              exact HF.out
            · exact HJ.out j (by omega) z hz
    · obtain rfl : n = L.sigs.length := by omega
      obtain rfl := HX.out.2 (fun j hj => HJ.out j hj)
      go_wp2
      go_ret
      exact ⟨rfl, bchain HB.out HBr.out⟩

set_option maxRecDepth 100000 in
set_option maxHeartbeats 2000000 in
theorem rExit_any (L : Lay) (p : Where) (s q : Int) (w : World) (hL : LayAt w p L) :
    Calls Tryd.prog 17 #[L.val p, .agg #[.int .i64 s, .int .i64 q]] w fun e w' => e = .returned (.int .i64 (exIx L s q)) ∧ Below w.heap.size w w' := by
  have hX : (∀ (n : Nat) x, L.exits[n]? = some x → sameP x.s x.p s q = true → (∀ (j : Nat), j < n → ∀ y, L.exits[j]? = some y → sameP y.s y.p s q = false) → exIx L s q = n) ∧ ((∀ (j : Nat), j < L.exits.length → ∀ y, L.exits[j]? = some y → sameP y.s y.p s q = false) → exIx L s q = -1) :=
    ⟨fun n x hx hp ha => idx_hit hx hp ha, fun ha => idx_miss ha⟩
  generalize exIx L s q = r at hX ⊢
  have HX := Lib.hid hX
  have hm : L.exits.length ≤ 9223372036854775807 := Nat.le_trans hL.l2.1 hL.l2.2
  obtain ⟨a0, a1, a2, a3, p0, p1, p2, p3⟩ := p
  have HL := Lib.hid hL
  clear hX hL
  unfold Lay.val
  go_enter Tryd.func17, Tryd.ntmps17
  go_wp2_with fail
  obtain ⟨W, hW⟩ : ∃ W, W = (w.alloc (.cells #[.slice a0 L.secs.length p0, .slice a1 L.sigs.length p1, .slice a2 L.exits.length p2, .slice a3 L.flanks.length p3, .int .i64 L.t0, .int .i64 L.t1, .int .i64 L.t2, .int .i64 L.t3, .int .i64 L.t4, .int .i64 L.t5, .int .i64 L.t6] 29)).alloc (.cells #[.int .i64 s, .int .i64 q] 31) := ⟨_, rfl⟩
  have hB : Below w.heap.size w W := by rw [hW]; exact bchain bself bself
  have u0 : W.cell? ⟨w.heap.size, 2, none⟩ = some (.slice a2 L.exits.length p2) := by rw [hW]; simp [go_sem]
  have u1 : W.cell? ⟨w.heap.size + 1, 0, none⟩ = some (.int .i64 s) := by rw [hW]; simp [go_sem]
  have u2 : W.cell? ⟨w.heap.size + 1, 1, none⟩ = some (.int .i64 q) := by rw [hW]; simp [go_sem]
  have lw : w.heap.size + 1 < W.heap.size := by rw [hW]; simp
  have lw0 : w.heap.size < W.heap.size := by omega
  rw [← hW]
  have HB := Lib.hid hB
  clear hW hB
  go_loopg [5] L.exits.length (fun gg s5 wr => ∃ n : Nat, n ≤ L.exits.length ∧ L.exits.length - n ≤ gg ∧ s5 = .int .i64 n ∧ Hid (Below W.heap.size W wr) ∧ Hid (∀ (j : Nat), j < n → ∀ y, L.exits[j]? = some y → sameP y.s y.p s q = false))
  case atStart => exact ⟨0, Nat.zero_le _, by omega, rfl, Lib.hid (Below.refl _ _), Lib.hid (fun j hj => absurd hj (Nat.not_lt_zero _))⟩
  case round =>
    obtain ⟨n, hn, hg, rfl, HBr, HJ⟩ := hrel
    have v0 := (HBr.out.cell (p := ⟨w.heap.size, 2, none⟩) lw0).trans u0
    have v1 := (HBr.out.cell (p := ⟨w.heap.size + 1, 0, none⟩) lw).trans u1
    have v2 := (HBr.out.cell (p := ⟨w.heap.size + 1, 1, none⟩) lw).trans u2
    have lv : w.heap.size + 1 < wr.heap.size := Nat.lt_of_lt_of_le lw HBr.out.size
    have lv0 : w.heap.size < wr.heap.size := by omega
    clear u0 u1 u2
    by_cases hlt : n < L.exits.length
    · have hBw := bchain HB.out HBr.out
      obtain ⟨es, hes, hAt, _⟩ := HL.out.exits
      have hlen : es.length = L.exits.length := by rw [← hes, List.length_map]
      obtain ⟨b, off, hAe, h0, hrow⟩ := hAt.get (j := n) (by omega)
      subst hAe
      obtain ⟨y, hy⟩ : ∃ y, es[n]? = some y := ⟨es[n]'(by omega), List.getElem?_eq_getElem (by omega)⟩
      have g0 := hrow n y hy 0 _ rfl
      have g1 := hrow n y hy 1 _ rfl
      obtain ⟨x, hx⟩ : ∃ x, x = y.1 := ⟨_, rfl⟩
      rw [← hx] at g0 g1
      replace hx : L.exits[n]? = some x := by rw [← hes, List.getElem?_map, hy, hx]; rfl
      clear hy hes hAt hlen
      have c0 := (hBw.cell (p := ⟨b, off + n * 3, none⟩) h0).trans g0
      have c1 := (hBw.cell (p := ⟨b, off + n * 3 + 1, none⟩) h0).trans g1
      have lb : b < wr.heap.size := Nat.lt_of_lt_of_le h0 hBw.size
      have HXX := Lib.hid hx
      clear g0 g1 hrow hx hBw HL
      obtain ⟨xs, xp, xo⟩ := x
      dsimp only at c0 c1
      by_cases h1 : xs = s ∧ xp = q
      · obtain ⟨h1, h2⟩ := h1
        obtain rfl := HX.out.1 n _ HXX.out (sameP_t ⟨h1, h2⟩) HJ.out
        subst h1 h2
        go_wp2_with fail
        refine wp_region_ext (by kernel_rfl) (by kernel_rfl) fun hx => ?_
        repeat (go_big_quiet_step (fail))
        refine wpQuiet_nil ?_
        intro w5 b5
        go_wp2
        go_ret
        exact ⟨rfl, bchain (bchain HB.out HBr.out) b5⟩
      · have HF := Lib.hid (sameP_f h1)
        have h1' : ¬ xs = s ∨ (xs = s ∧ ¬ xp = q) := by omega
        clear h1
        rcases h1' with h1 | ⟨h1, h2⟩
        · go_wp2_with fail
          refine wp_region_ext (by kernel_rfl) (by kernel_rfl) fun hx => ?_
          repeat (go_big_quiet_step (fail))
          refine wpQuiet_nil ?_
          intro w5 b5
          go_wp2
          go_roundg (L.exits.length - (n + 1))
          case measure => omega
          case rel =>
            refine ⟨n + 1, by omega, by omega, by go_num, Lib.hid (bchain HBr.out b5), Lib.hid (fun j hj z hz => ?_)⟩
            by_cases e : j = n
            · subst e
              rw [HXX.out] at hz
              cases hz
              exact HF.out
            · exact HJ.out j (by omega) z hz
        · subst h1
          go_wp2_with fail
          refine wp_region_ext (by kernel_rfl) (by kernel_rfl) fun hx => ?_
          repeat (go_big_quiet_step (fail))
          refine wpQuiet_nil ?_
          intro w5 b5
          go_wp2
          go_roundg (L.exits.length - (n + 1))
          case measure => omega
          case rel =>
            refine ⟨n + 1, by omega, by omega, by go_num, Lib.hid (bchain HBr.out b5), Lib.hid (fun j hj z hz => ?_)⟩
            by_cases e : j = n
            · subst e
              rw [HXX.out] at hz
              cases hz
              exact HF.out
            · exact HJ.out j (by omega) z hz
    · obtain rfl : n = L.exits.length := by omega
      obtain rfl := HX.out.2 (fun j hj => HJ.out j hj)
      go_wp2
      go_ret
      exact ⟨rfl, bchain HB.out HBr.out⟩
end Go.Proofs.YtkphihbimdffjaaDoor
