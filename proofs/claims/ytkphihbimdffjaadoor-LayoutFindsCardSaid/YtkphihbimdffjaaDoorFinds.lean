/-
  The walk of LayoutFinds.
-/
import Derived.Test.YtkphihbimdffjaaDoorWakes
import Derived.Deep.DeepCutAuto
namespace Go.Proofs.YtkphihbimdffjaaDoor
open Go.RowKit Go.Shelf

/-- The first of which p holds: there is none, or it stands there, and none ahead of it. -/
theorem idx_cases {α : Type} (p : α → Bool) (xs : List α) : (idxOf' p xs = -1 ∧ ∀ y ∈ xs, p y = false) ∨ ∃ (n : Nat) (x : α), idxOf' p xs = n ∧ n < xs.length ∧ xs[n]? = some x ∧ p x = true ∧ ∀ j, j < n → ∀ y, xs[j]? = some y → p y = false := by
  unfold idxOf'
  cases h : xs.findIdx? p with
  | none => exact .inl ⟨rfl, fun y hy => by rw [List.findIdx?_eq_none_iff] at h; simpa using h y hy⟩
  | some i =>
    obtain ⟨hi, hp, hj⟩ := List.findIdx?_eq_some_iff_getElem.1 h
    refine .inr ⟨i, xs[i], rfl, hi, List.getElem?_eq_getElem hi, hp, fun j hji y hy => ?_⟩
    have := hj j hji
    rw [List.getElem?_eq_getElem (by omega)] at hy
    obtain rfl := Option.some.inj hy
    simpa using this
theorem idx_le {α : Type} {p : α → Bool} {xs : List α} {n : Nat} {x : α} (hx : xs[n]? = some x) (h : p x = true) : 0 ≤ idxOf' p xs ∧ idxOf' p xs ≤ n := by
  rcases idx_cases p xs with ⟨_, g⟩ | ⟨m, y, e, _, _, _, g⟩
  · rw [g x (List.mem_of_getElem? hx)] at h; cases h
  · rw [e]
    refine ⟨by omega, ?_⟩
    rcases Nat.lt_or_ge n m with hlt | hge
    · rw [g n hlt x hx] at h; cases h
    · omega
theorem same_eq {a b s q : Int} (h : sameP a b s q = true) : a = s ∧ b = q := of_decide_eq_true h
/-- What is found among the signals, the exits. -/
theorem sig_cases (L : Lay) (s q : Int) : sigIx L s q = -1 ∨ ∃ n : Nat, sigIx L s q = n ∧ n < L.sigs.length ∧ L.sigs[n]? = some ⟨s, q⟩ := by
  rcases idx_cases (fun x : Prt => sameP x.s x.p s q) L.sigs with ⟨h, _⟩ | ⟨n, ⟨a, b⟩, h, hn, hx, hp, _⟩
  · exact .inl h
  · obtain ⟨rfl, rfl⟩ := same_eq hp
    exact .inr ⟨n, h, hn, hx⟩
theorem ex_cases (L : Lay) (s q : Int) : exIx L s q = -1 ∨ ∃ (n : Nat) (o : List Stp), exIx L s q = n ∧ n < L.exits.length ∧ L.exits[n]? = some ⟨s, q, o⟩ := by
  rcases idx_cases (fun x : Ext' => sameP x.s x.p s q) L.exits with ⟨h, _⟩ | ⟨n, ⟨a, b, o⟩, h, hn, hx, hp, _⟩
  · exact .inl h
  · obtain ⟨rfl, rfl⟩ := same_eq hp
    exact .inr ⟨n, o, h, hn, hx⟩

set_option maxRecDepth 100000 in
set_option maxHeartbeats 16000000 in
theorem layoutFinds_walk (L : Lay) (p : Where) (s q : Int) (w : World) (hL : LayAt w p L) (K : Kinds w) :
    Calls Tryd.prog 6 #[L.val p, .agg #[.int .i64 s, .int .i64 q]] w fun e w' => e = .returned (.bool true) ∧ Below w.heap.size w w' := by
  have hG := fun w1 (b : Below w.heap.size w w1) => rGreat_any L p w1 (hL.below b)
  have hW := fun w1 (b : Below w.heap.size w w1) => wakes_any w1 (K.below b)
  have h1 := fun w1 (b : Below w.heap.size w w1) => signal_any L p s q w1 (hL.below b)
  have h2 := fun w1 (b : Below w.heap.size w w1) => exit_any L p s q w1 (hL.below b)
  have hS : ∀ (n : Nat) (x : Prt), L.sigs[n]? = some x → sameP x.s x.p s q = true → 0 ≤ sigIx L s q ∧ sigIx L s q ≤ n := fun n x hx hp => idx_le hx hp
  have hX : ∀ (n : Nat) (x : Ext'), L.exits[n]? = some x → sameP x.s x.p s q = true → 0 ≤ exIx L s q ∧ exIx L s q ≤ n := fun n x hx hp => idx_le hx hp
  have hcs := sig_cases L s q
  have hcx := ex_cases L s q
  generalize sigIx L s q = S at *
  generalize exIx L s q = X at *
  have HG := Lib.hid hG
  have HW := Lib.hid hW
  have H1 := Lib.hid h1
  have H2 := Lib.hid h2
  have HS := Lib.hid hS
  have HX := Lib.hid hX
  have HCS := Lib.hid hcs
  have HCX := Lib.hid hcx
  have hm1 : L.sigs.length ≤ 9223372036854775807 := Nat.le_trans hL.l1.1 hL.l1.2
  have hm2 : L.exits.length ≤ 9223372036854775807 := Nat.le_trans hL.l2.1 hL.l2.2
  have HL := Lib.hid hL
  clear hG hW h1 h2 hS hX hcs hcx K hL
  obtain ⟨a0, a1, a2, a3, p0, p1, p2, p3⟩ := p
  unfold Lay.val at *
  go_enter Tryd.func6, Tryd.ntmps6
  go_wp2_with fail
  (with_reducible refine (HG.out _ (bchain bself bself)).mono ?_)
  rintro e w1 ⟨g, rfl, b1⟩
  obtain ⟨c1, f1, l1⟩ := bcell b1
  have y1 : w.heap.size < w1.heap.size := l1 _ (by simp <;> omega)
  have z1 : w.heap.size + 1 < w1.heap.size := l1 _ (by simp)
  have B := bchain (bchain (bself (w := w) (o := _)) bself) b1
  clear b1 l1 f1
  cases g
  case true =>
    go_wp2_with fail
    (with_reducible refine (HW.out _ B).mono ?_)
    rintro e w2 ⟨rfl, b2⟩
    go_wp2
    go_ret
    exact ⟨rfl, bchain B b2⟩
  go_wp2_with fail
  refine wp_region_ext (by kernel_rfl) (by kernel_rfl) fun hx => ?_
  repeat (go_big_quiet_step (first | (go_at_call 14; exact Calls.ext (H1.out _ (bchain B (Ext.below _)))) | (go_at_call 16; exact Calls.ext (H2.out _ (bchain B (Ext.below _))))))
  refine wpQuiet_nil ?_
  intro W2 b2
  obtain ⟨c2, f2, l2⟩ := bcell b2
  have y2 := l2 _ y1
  have z2 := l2 _ z1
  replace B := bchain B b2
  have u1 : W2.cell? ⟨w.heap.size, 1, none⟩ = some (.slice a1 L.sigs.length p1) := by rw [c2 _ _ y1, c1 _ _ (by simp <;> omega)]; simp [go_sem]
  have u2 : W2.cell? ⟨w.heap.size, 2, none⟩ = some (.slice a2 L.exits.length p2) := by rw [c2 _ _ y1, c1 _ _ (by simp <;> omega)]; simp [go_sem]
  have r0 : W2.cell? ⟨w.heap.size + 1, 0, none⟩ = some (.int .i64 s) := by rw [c2 _ _ z1, c1 _ _ (by simp)]; simp [go_sem]
  have r1 : W2.cell? ⟨w.heap.size + 1, 1, none⟩ = some (.int .i64 q) := by rw [c2 _ _ z1, c1 _ _ (by simp)]; simp [go_sem]
  have HBY := Lib.hid B
  clear c1 c2 f2 l2 b2 B y1 z1
  go_upto_region 4 with fail
  go_cut [65] (fun s65 w' => s65 = .bool false ∧ Hid (Below W2.heap.size W2 w'))
  case first =>
    as_aux_lemma =>
    have cs := HCS.out
    have cx := HCX.out
    have dn1 : decide ((L.sigs.length : Int) ≤ -1) = false := decide_eq_false (by omega)
    have dn2 : decide ((L.exits.length : Int) ≤ -1) = false := decide_eq_false (by omega)
    rcases cs with rfl | ⟨n, rfl, hn, hx⟩
    · rcases cx with rfl | ⟨m, o, rfl, hm, hy⟩
      · refine wp_region_ext (by kernel_rfl) (by kernel_rfl) fun hx => ?_
        repeat (go_big_quiet_step (fail))
        refine wpQuiet_nil ?_
        intro W5 b5
        go_wp2
        go_meet
        exact ⟨rfl, Lib.hid b5⟩
      · obtain ⟨es, hes, hAt, _⟩ := HL.out.exits
        have hlen : es.length = L.exits.length := by rw [← hes, List.length_map]
        obtain ⟨bx, ox, hAe2, h02, hrow2⟩ := hAt.get (j := m) (by omega)
        dsimp only at hAe2
        subst hAe2
        obtain ⟨y, hy2⟩ : ∃ y, es[m]? = some y := ⟨es[m]'(by omega), List.getElem?_eq_getElem (by omega)⟩
        have hy1 : y.1 = ⟨s, q, o⟩ := by
          have : L.exits[m]? = some y.1 := by rw [← hes, List.getElem?_map, hy2]; rfl
          rw [this] at hy
          exact Option.some.inj hy
        have g0 := hrow2 m y hy2 0 _ rfl
        have g1 := hrow2 m y hy2 1 _ rfl
        rw [hy1] at g0 g1
        have k2 := (HBY.out.cell (p := ⟨bx, ox + m * 3, none⟩) h02).trans g0
        have k3 := (HBY.out.cell (p := ⟨bx, ox + m * 3 + 1, none⟩) h02).trans g1
        dsimp only at k2 k3
        have lb2 : bx < W2.heap.size := Nat.lt_of_lt_of_le h02 HBY.out.size
        have e3 : decide ((m : Int) < -1) = false := decide_eq_false (by omega)
        have e4 : decide (L.exits.length ≤ m) = false := decide_eq_false (by omega)
        clear g0 g1 hrow2 hy hy1 hy2 hes hAt hlen dn2
        refine wp_region_ext (by kernel_rfl) (by kernel_rfl) fun hx => ?_
        repeat (go_big_quiet_step (fail))
        refine wpQuiet_nil ?_
        intro W5 b5
        go_wp2
        go_meet
        exact ⟨rfl, Lib.hid b5⟩
    · have kb := HL.out.sigs.get hn
      obtain ⟨b, off, hAe, h0, hrow⟩ := kb
      dsimp only at hAe
      subst hAe
      have k0 := (HBY.out.cell (p := ⟨b, off + n * 2, none⟩) h0).trans (hrow n _ hx 0 _ rfl)
      have k1 := (HBY.out.cell (p := ⟨b, off + n * 2 + 1, none⟩) h0).trans (hrow n _ hx 1 _ rfl)
      have lb : b < W2.heap.size := Nat.lt_of_lt_of_le h0 HBY.out.size
      have e1 : decide ((n : Int) < -1) = false := decide_eq_false (by omega)
      have e2 : decide (L.sigs.length ≤ n) = false := decide_eq_false (by omega)
      clear hrow hx dn1
      rcases cx with rfl | ⟨m, o, rfl, hm, hy⟩
      · refine wp_region_ext (by kernel_rfl) (by kernel_rfl) fun hx => ?_
        repeat (go_big_quiet_step (fail))
        refine wpQuiet_nil ?_
        intro W5 b5
        go_wp2
        go_meet
        exact ⟨rfl, Lib.hid b5⟩
      · obtain ⟨es, hes, hAt, _⟩ := HL.out.exits
        have hlen : es.length = L.exits.length := by rw [← hes, List.length_map]
        obtain ⟨bx, ox, hAe2, h02, hrow2⟩ := hAt.get (j := m) (by omega)
        dsimp only at hAe2
        subst hAe2
        obtain ⟨y, hy2⟩ : ∃ y, es[m]? = some y := ⟨es[m]'(by omega), List.getElem?_eq_getElem (by omega)⟩
        have hy1 : y.1 = ⟨s, q, o⟩ := by
          have : L.exits[m]? = some y.1 := by rw [← hes, List.getElem?_map, hy2]; rfl
          rw [this] at hy
          exact Option.some.inj hy
        have g0 := hrow2 m y hy2 0 _ rfl
        have g1 := hrow2 m y hy2 1 _ rfl
        rw [hy1] at g0 g1
        have k2 := (HBY.out.cell (p := ⟨bx, ox + m * 3, none⟩) h02).trans g0
        have k3 := (HBY.out.cell (p := ⟨bx, ox + m * 3 + 1, none⟩) h02).trans g1
        dsimp only at k2 k3
        have lb2 : bx < W2.heap.size := Nat.lt_of_lt_of_le h02 HBY.out.size
        have e3 : decide ((m : Int) < -1) = false := decide_eq_false (by omega)
        have e4 : decide (L.exits.length ≤ m) = false := decide_eq_false (by omega)
        clear g0 g1 hrow2 hy hy1 hy2 hes hAt hlen dn2
        refine wp_region_ext (by kernel_rfl) (by kernel_rfl) fun hx => ?_
        repeat (go_big_quiet_step (fail))
        refine wpQuiet_nil ?_
        intro W5 b5
        go_wp2
        go_meet
        exact ⟨rfl, Lib.hid b5⟩
  case rest =>
    obtain ⟨rfl, HBW⟩ := hcut
    obtain ⟨Y, rfl⟩ : ∃ Y : World, Y = wc := ⟨_, rfl⟩
    replace u1 := (HBW.out.cell (p := ⟨w.heap.size, 1, none⟩) y2).trans u1
    replace u2 := (HBW.out.cell (p := ⟨w.heap.size, 2, none⟩) y2).trans u2
    replace r0 := (HBW.out.cell (p := ⟨w.heap.size + 1, 0, none⟩) z2).trans r0
    replace r1 := (HBW.out.cell (p := ⟨w.heap.size + 1, 1, none⟩) z2).trans r1
    have ly0 : w.heap.size < Y.heap.size := Nat.lt_of_lt_of_le y2 HBW.out.size
    have ly : w.heap.size + 1 < Y.heap.size := Nat.lt_of_lt_of_le z2 HBW.out.size
    replace HBY := Lib.hid (bchain HBY.out HBW.out)
    clear HBW y2 z2 HCS HCX HG H1 H2
    go_wp2_with fail
    go_loopw [7] (fun c wr => ∃ n : Nat, n ≤ L.sigs.length ∧ c = .int .i64 n ∧ Hid (Below w.heap.size w wr) ∧ Hid (Below Y.heap.size Y wr)) (fun c _ => L.sigs.length - (intOf c).toNat)
    case atStart => exact ⟨0, Nat.zero_le _, rfl, HBY, Lib.hid (Below.refl _ _)⟩
    case round =>
      obtain ⟨n, hn, rfl, HBw, HBr⟩ := hrel
      have v0 := (HBr.out.cell (p := ⟨w.heap.size, 1, none⟩) ly0).trans u1
      have v1 := (HBr.out.cell (p := ⟨w.heap.size + 1, 0, none⟩) ly).trans r0
      have v2 := (HBr.out.cell (p := ⟨w.heap.size + 1, 1, none⟩) ly).trans r1
      have lv : w.heap.size + 1 < wr.heap.size := Nat.lt_of_lt_of_le ly HBr.out.size
      have lv0 : w.heap.size < wr.heap.size := by omega
      by_cases hlt : n < L.sigs.length
      · obtain ⟨b, off, hAe, h0, hrow⟩ := HL.out.sigs.get hlt
        dsimp only at hAe
        subst hAe
        obtain ⟨x, hx⟩ : ∃ x, L.sigs[n]? = some x := ⟨L.sigs[n], List.getElem?_eq_getElem hlt⟩
        have g0 := hrow n x hx 0 _ rfl
        have g1 := hrow n x hx 1 _ rfl
        have c0 := (HBw.out.cell (p := ⟨b, off + n * 2, none⟩) h0).trans g0
        have c1 := (HBw.out.cell (p := ⟨b, off + n * 2 + 1, none⟩) h0).trans g1
        have lb : b < wr.heap.size := Nat.lt_of_lt_of_le h0 HBw.out.size
        have hle : sameP x.s x.p s q = true → 0 ≤ S ∧ S ≤ n := HS.out n x hx
        clear g0 g1 hrow hx HL
        obtain ⟨xs, xp⟩ := x
        dsimp only at c0 c1 hle
        by_cases h1 : xs = s ∧ xp = q
        · obtain ⟨h2, h3⟩ := hle (sameP_t h1)
          obtain ⟨rfl, rfl⟩ := h1
          clear hle
          have d1 : decide (S < 0) = false := decide_eq_false (by omega)
          have d2 : decide ((n : Int) < S) = false := decide_eq_false (by omega)
          go_wp2_with fail
          refine wp_region_ext (by kernel_rfl) (by kernel_rfl) fun hx => ?_
          repeat (go_big_quiet_step (fail))
          refine wpQuiet_nil ?_
          intro w5 b5
          go_wp2
          go_roundw
          case rel => exact ⟨n + 1, by omega, by go_num, Lib.hid (bchain HBw.out b5), Lib.hid (bchain HBr.out b5)⟩
          case measure => simp [intOf]; omega
        · have h1' : ¬ xs = s ∨ (xs = s ∧ ¬ xp = q) := by omega
          clear h1 hle
          rcases h1' with h1 | ⟨rfl, h2⟩
          all_goals
            go_wp2_with fail
            refine wp_region_ext (by kernel_rfl) (by kernel_rfl) fun hx => ?_
            repeat (go_big_quiet_step (fail))
            refine wpQuiet_nil ?_
            intro w5 b5
            go_wp2
            go_roundw
            case rel => exact ⟨n + 1, by omega, by go_num, Lib.hid (bchain HBw.out b5), Lib.hid (bchain HBr.out b5)⟩
            case measure => simp [intOf]; omega
      obtain rfl : n = L.sigs.length := by omega
      obtain ⟨wo, rfl⟩ : ∃ wo : World, wo = wr := ⟨_, rfl⟩
      have HBo := HBr
      replace HBY := HBw
      clear hn HBw HBr
      go_wp2_with fail
      clear v0 v1 v2 lv lv0 hlt
      go_loopw [8] (fun c wr => ∃ n : Nat, n ≤ L.exits.length ∧ c = .int .i64 n ∧ Hid (Below w.heap.size w wr) ∧ Hid (Below Y.heap.size Y wr)) (fun c _ => L.exits.length - (intOf c).toNat)
      case atStart => exact ⟨0, Nat.zero_le _, rfl, HBY, HBo⟩
      case round =>
        obtain ⟨n, hn, rfl, HBw, HBr⟩ := hrel
        have v0 := (HBr.out.cell (p := ⟨w.heap.size, 2, none⟩) ly0).trans u2
        have v1 := (HBr.out.cell (p := ⟨w.heap.size + 1, 0, none⟩) ly).trans r0
        have v2 := (HBr.out.cell (p := ⟨w.heap.size + 1, 1, none⟩) ly).trans r1
        have lv : w.heap.size + 1 < wr.heap.size := Nat.lt_of_lt_of_le ly HBr.out.size
        have lv0 : w.heap.size < wr.heap.size := by omega
        clear u1 u2 r0 r1
        by_cases hlt : n < L.exits.length
        · obtain ⟨es, hes, hAt, _⟩ := HL.out.exits
          have hlen : es.length = L.exits.length := by rw [← hes, List.length_map]
          obtain ⟨b, off, hAe, h0, hrow⟩ := hAt.get (j := n) (by omega)
          dsimp only at hAe
          subst hAe
          obtain ⟨y, hy⟩ : ∃ y, es[n]? = some y := ⟨es[n]'(by omega), List.getElem?_eq_getElem (by omega)⟩
          have g0 := hrow n y hy 0 _ rfl
          have g1 := hrow n y hy 1 _ rfl
          obtain ⟨x, hx⟩ : ∃ x, x = y.1 := ⟨_, rfl⟩
          rw [← hx] at g0 g1
          replace hx : L.exits[n]? = some x := by rw [← hes, List.getElem?_map, hy, hx]; rfl
          clear hy hes hAt hlen
          have c0 := (HBw.out.cell (p := ⟨b, off + n * 3, none⟩) h0).trans g0
          have c1 := (HBw.out.cell (p := ⟨b, off + n * 3 + 1, none⟩) h0).trans g1
          have lb : b < wr.heap.size := Nat.lt_of_lt_of_le h0 HBw.out.size
          have hle : sameP x.s x.p s q = true → 0 ≤ X ∧ X ≤ n := HX.out n x hx
          clear g0 g1 hrow hx HL
          obtain ⟨xs, xp, xo⟩ := x
          dsimp only at c0 c1 hle
          by_cases h1 : xs = s ∧ xp = q
          · obtain ⟨h2, h3⟩ := hle (sameP_t h1)
            obtain ⟨rfl, rfl⟩ := h1
            clear hle
            have d1 : decide (X < 0) = false := decide_eq_false (by omega)
            have d2 : decide ((n : Int) < X) = false := decide_eq_false (by omega)
            go_wp2_with fail
            refine wp_region_ext (by kernel_rfl) (by kernel_rfl) fun hx => ?_
            repeat (go_big_quiet_step (fail))
            refine wpQuiet_nil ?_
            intro w5 b5
            go_wp2
            go_roundw
            case rel => exact ⟨n + 1, by omega, by go_num, Lib.hid (bchain HBw.out b5), Lib.hid (bchain HBr.out b5)⟩
            case measure => simp [intOf]; omega
          · have h1' : ¬ xs = s ∨ (xs = s ∧ ¬ xp = q) := by omega
            clear h1 hle
            rcases h1' with h1 | ⟨rfl, h2⟩
            all_goals
              go_wp2_with fail
              refine wp_region_ext (by kernel_rfl) (by kernel_rfl) fun hx => ?_
              repeat (go_big_quiet_step (fail))
              refine wpQuiet_nil ?_
              intro w5 b5
              go_wp2
              go_roundw
              case rel => exact ⟨n + 1, by omega, by go_num, Lib.hid (bchain HBw.out b5), Lib.hid (bchain HBr.out b5)⟩
              case measure => simp [intOf]; omega
        obtain rfl : n = L.exits.length := by omega
        go_wp2_with fail
        (with_reducible refine (HW.out _ HBw.out).mono ?_)
        rintro e w9 ⟨rfl, b9⟩
        go_wp2
        go_ret
        exact ⟨rfl, bchain HBw.out b9⟩
end Go.Proofs.YtkphihbimdffjaaDoor
