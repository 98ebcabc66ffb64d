/-
  slices.Equal, slices.EqualFunc at the structs of a layout; layout.Same.
-/
import Derived.Test.YtkphihbimdffjaaDoorRight
import Derived.ChangeKeysEq
import Derived.Laws.StructEq
namespace Go.Proofs.YtkphihbimdffjaaDoor
open Go.RowKit Go.Shelf

theorem eq_of_all {α : Type} {xs ys : List α} (hl : xs.length = ys.length) (h : ∀ (j : Nat), j < xs.length → xs[j]? = ys[j]?) : xs = ys := by
  apply List.ext_getElem? 
  intro j
  by_cases hj : j < xs.length
  · exact h j hj
  · rw [List.getElem?_eq_none (by omega), List.getElem?_eq_none (by omega)]

set_option maxRecDepth 100000 in
set_option maxHeartbeats 4000000 in
theorem equalStep_any (A A' : Option Addr) (cap cap' : Nat) (xs ys : List Stp) (w : World) (hA : At w 3 Stp.enc A xs) (hA' : At w 3 Stp.enc A' ys) (hm : xs.length ≤ 9223372036854775807) :
    Calls Tryd.prog 51 #[.slice A xs.length cap, .slice A' ys.length cap'] w fun e w' => e = .returned (.bool (decide (xs = ys))) ∧ Below w.heap.size w w' := by
  by_cases hl : xs.length = ys.length
  · have hr : (xs = ys → decide (xs = ys) = true) ∧ (¬ xs = ys → decide (xs = ys) = false) := ⟨decide_eq_true, decide_eq_false⟩
    generalize decide (xs = ys) = r at hr ⊢
    have HX := Lib.hid hr
    obtain ⟨len, hlen⟩ : ∃ len, len = xs.length := ⟨_, rfl⟩
    rw [← hl]
    rw [← hlen] at hm ⊢
    have HLN := Lib.hid (⟨hlen, hlen.trans hl⟩ : _ ∧ _)
    have HA := Lib.hid hA
    have HA' := Lib.hid hA'
    clear hA hA' hlen hr hl
    go_enter Tryd.func51, Tryd.ntmps51
    go_wp2_with fail
    go_loopg [13] len (fun gg s13 wr => ∃ n : Nat, n ≤ len ∧ len - n ≤ gg ∧ s13 = .int .i64 n ∧ Hid (Below w.heap.size w wr) ∧ Hid (∀ (j : Nat), j < n → xs[j]? = ys[j]?))
    case atStart => exact ⟨0, Nat.zero_le _, by omega, rfl, Lib.hid (Below.refl _ w), Lib.hid (fun j hj => absurd hj (Nat.not_lt_zero _))⟩
    case round =>
      obtain ⟨n, hn, hg, rfl, HB, HJ⟩ := hrel
      by_cases hlt : n < len
      · obtain ⟨b, off, hAe, hrow⟩ := HA.out.get (by rw [← HLN.out.1]; exact hlt)
        subst hAe
        obtain ⟨b', off', hAe, hrow'⟩ := HA'.out.get (by rw [← HLN.out.2]; exact hlt)
        subst hAe
        obtain ⟨x, hx⟩ : ∃ x, xs[n]? = some x := ⟨xs[n]'(by rw [← HLN.out.1]; exact hlt), List.getElem?_eq_getElem _⟩
        obtain ⟨y, hy⟩ : ∃ y, ys[n]? = some y := ⟨ys[n]'(by rw [← HLN.out.2]; exact hlt), List.getElem?_eq_getElem _⟩
        have h0 := hrow.1
        have h0' := hrow'.1
        have c0 := (HB.out.cell (p := ⟨b, off + n * 3, none⟩) h0).trans (hrow.2 n x hx 0 _ rfl)
        have e0 := (HB.out.cell (p := ⟨b', off' + n * 3, none⟩) h0').trans (hrow'.2 n y hy 0 _ rfl)
        have c1 := (HB.out.cell (p := ⟨b, off + n * 3 + 1, none⟩) h0).trans (hrow.2 n x hx 1 _ rfl)
        have e1 := (HB.out.cell (p := ⟨b', off' + n * 3 + 1, none⟩) h0').trans (hrow'.2 n y hy 1 _ rfl)
        have c2 := (HB.out.cell (p := ⟨b, off + n * 3 + 2, none⟩) h0).trans (hrow.2 n x hx 2 _ rfl)
        have e2 := (HB.out.cell (p := ⟨b', off' + n * 3 + 2, none⟩) h0').trans (hrow'.2 n y hy 2 _ rfl)
        have lb := Nat.lt_of_lt_of_le h0 HB.out.size
        have lb' := Nat.lt_of_lt_of_le h0' HB.out.size
        have HXY := Lib.hid (⟨hx, hy⟩ : _ ∧ _)
        obtain ⟨xs, xi, xo⟩ := x
        obtain ⟨ys, yi, yo⟩ := y
        dsimp only at c0 e0 c1 e1 c2 e2
        clear hrow hrow' hx hy HA HA' h0 h0'
        by_cases h0 : xs = ys
        · subst h0
          by_cases h1 : xi = yi
          · subst h1
            by_cases h2 : xo = yo
            · subst h2
              go_wp2_with fail
              refine wp_region_ext (by kernel_rfl) (by kernel_rfl) fun hx => ?_
              repeat (go_big_quiet_step (fail))
              refine wpQuiet_nil ?_
              intro w5 b5
              go_wp2
              go_roundg (len - (n + 1))
              case measure => omega
              case rel =>
                refine ⟨n + 1, by omega, by omega, by go_num, Lib.hid (bchain HB.out b5), Lib.hid (fun j hj => ?_)⟩
                by_cases e : j = n
                · subst e
                  rw [HXY.out.1, HXY.out.2]
                · exact HJ.out j (by omega)
            · obtain rfl : r = false := HX.out.2 (fun e => by
                have h1 := HXY.out.1
                rw [e, HXY.out.2] at h1
                cases h1
                exact h2 rfl)
              go_wp2_with fail
              refine wp_region_ext (by kernel_rfl) (by kernel_rfl) fun hx => ?_
              repeat (go_big_quiet_step (fail))
              refine wpQuiet_nil ?_
              intro w5 b5
              go_wp2
              go_ret
              exact ⟨rfl, bchain HB.out b5⟩
          · obtain rfl : r = false := HX.out.2 (fun e => by
              have h1 := HXY.out.1
              rw [e, HXY.out.2] at h1
              cases h1
              exact h1 rfl)
            go_wp2_with fail
            refine wp_region_ext (by kernel_rfl) (by kernel_rfl) fun hx => ?_
            repeat (go_big_quiet_step (fail))
            refine wpQuiet_nil ?_
            intro w5 b5
            go_wp2
            go_ret
            exact ⟨rfl, bchain HB.out b5⟩
        · obtain rfl : r = false := HX.out.2 (fun e => by
            have h1 := HXY.out.1
            rw [e, HXY.out.2] at h1
            cases h1
            exact h0 rfl)
          go_wp2_with fail
          refine wp_region_ext (by kernel_rfl) (by kernel_rfl) fun hx => ?_
          repeat (go_big_quiet_step (fail))
          refine wpQuiet_nil ?_
          intro w5 b5
          go_wp2
          go_ret
          exact ⟨rfl, bchain HB.out b5⟩
      · obtain rfl : n = len := by omega
        obtain rfl : r = true := HX.out.1 (eq_of_all (HLN.out.1.symm.trans HLN.out.2) (fun j hj => HJ.out j (by rw [HLN.out.1]; exact hj)))
        go_wp2
        go_ret
        exact ⟨rfl, HB.out⟩
  · rw [decide_eq_false (fun e => hl (congrArg List.length e))]
    have hd : ¬ (xs.length : Int) = (ys.length : Int) := by omega
    have hd2 : ((xs.length : Int) == (ys.length : Int)) = false := by simp; omega
    clear hA hA'
    go_enter Tryd.func51, Tryd.ntmps51
    go_wp2
    go_ret
    exact ⟨rfl, Below.refl _ _⟩

set_option maxRecDepth 100000 in
set_option maxHeartbeats 4000000 in
theorem equalSignal_any (A A' : Option Addr) (cap cap' : Nat) (xs ys : List Prt) (w : World) (hA : At w 2 Prt.enc A xs) (hA' : At w 2 Prt.enc A' ys) (hm : xs.length ≤ 9223372036854775807) :
    Calls Tryd.prog 54 #[.slice A xs.length cap, .slice A' ys.length cap'] w fun e w' => e = .returned (.bool (decide (xs = ys))) ∧ Below w.heap.size w w' := by
  by_cases hl : xs.length = ys.length
  · have hr : (xs = ys → decide (xs = ys) = true) ∧ (¬ xs = ys → decide (xs = ys) = false) := ⟨decide_eq_true, decide_eq_false⟩
    generalize decide (xs = ys) = r at hr ⊢
    have HX := Lib.hid hr
    obtain ⟨len, hlen⟩ : ∃ len, len = xs.length := ⟨_, rfl⟩
    rw [← hl]
    rw [← hlen] at hm ⊢
    have HLN := Lib.hid (⟨hlen, hlen.trans hl⟩ : _ ∧ _)
    have HA := Lib.hid hA
    have HA' := Lib.hid hA'
    clear hA hA' hlen hr hl
    go_enter Tryd.func54, Tryd.ntmps54
    go_wp2_with fail
    go_loopg [13] len (fun gg s13 wr => ∃ n : Nat, n ≤ len ∧ len - n ≤ gg ∧ s13 = .int .i64 n ∧ Hid (Below w.heap.size w wr) ∧ Hid (∀ (j : Nat), j < n → xs[j]? = ys[j]?))
    case atStart => exact ⟨0, Nat.zero_le _, by omega, rfl, Lib.hid (Below.refl _ w), Lib.hid (fun j hj => absurd hj (Nat.not_lt_zero _))⟩
    case round =>
      obtain ⟨n, hn, hg, rfl, HB, HJ⟩ := hrel
      by_cases hlt : n < len
      · obtain ⟨b, off, hAe, hrow⟩ := HA.out.get (by rw [← HLN.out.1]; exact hlt)
        subst hAe
        obtain ⟨b', off', hAe, hrow'⟩ := HA'.out.get (by rw [← HLN.out.2]; exact hlt)
        subst hAe
        obtain ⟨x, hx⟩ : ∃ x, xs[n]? = some x := ⟨xs[n]'(by rw [← HLN.out.1]; exact hlt), List.getElem?_eq_getElem _⟩
        obtain ⟨y, hy⟩ : ∃ y, ys[n]? = some y := ⟨ys[n]'(by rw [← HLN.out.2]; exact hlt), List.getElem?_eq_getElem _⟩
        have h0 := hrow.1
        have h0' := hrow'.1
        have c0 := (HB.out.cell (p := ⟨b, off + n * 2, none⟩) h0).trans (hrow.2 n x hx 0 _ rfl)
        have e0 := (HB.out.cell (p := ⟨b', off' + n * 2, none⟩) h0').trans (hrow'.2 n y hy 0 _ rfl)
        have c1 := (HB.out.cell (p := ⟨b, off + n * 2 + 1, none⟩) h0).trans (hrow.2 n x hx 1 _ rfl)
        have e1 := (HB.out.cell (p := ⟨b', off' + n * 2 + 1, none⟩) h0').trans (hrow'.2 n y hy 1 _ rfl)
        have lb := Nat.lt_of_lt_of_le h0 HB.out.size
        have lb' := Nat.lt_of_lt_of_le h0' HB.out.size
        have HXY := Lib.hid (⟨hx, hy⟩ : _ ∧ _)
        obtain ⟨xs, xp⟩ := x
        obtain ⟨ys, yp⟩ := y
        dsimp only at c0 e0 c1 e1
        clear hrow hrow' hx hy HA HA' h0 h0'
        by_cases h0 : xs = ys
        · subst h0
          by_cases h1 : xp = yp
          · subst h1
            go_wp2_with fail
            refine wp_region_ext (by kernel_rfl) (by kernel_rfl) fun hx => ?_
            repeat (go_big_quiet_step (fail))
            refine wpQuiet_nil ?_
            intro w5 b5
            go_wp2
            go_roundg (len - (n + 1))
            case measure => omega
            case rel =>
              refine ⟨n + 1, by omega, by omega, by go_num, Lib.hid (bchain HB.out b5), Lib.hid (fun j hj => ?_)⟩
              by_cases e : j = n
              · subst e
                rw [HXY.out.1, HXY.out.2]
              · exact HJ.out j (by omega)
          · obtain rfl : r = false := HX.out.2 (fun e => by
              have h1 := HXY.out.1
              rw [e, HXY.out.2] at h1
              cases h1
              exact h1 rfl)
            go_wp2_with fail
            refine wp_region_ext (by kernel_rfl) (by kernel_rfl) fun hx => ?_
            repeat (go_big_quiet_step (fail))
            refine wpQuiet_nil ?_
            intro w5 b5
            go_wp2
            go_ret
            exact ⟨rfl, bchain HB.out b5⟩
        · obtain rfl : r = false := HX.out.2 (fun e => by
            have h1 := HXY.out.1
            rw [e, HXY.out.2] at h1
            cases h1
            exact h0 rfl)
          go_wp2_with fail
          refine wp_region_ext (by kernel_rfl) (by kernel_rfl) fun hx => ?_
          repeat (go_big_quiet_step (fail))
          refine wpQuiet_nil ?_
          intro w5 b5
          go_wp2
          go_ret
          exact ⟨rfl, bchain HB.out b5⟩
      · obtain rfl : n = len := by omega
        obtain rfl : r = true := HX.out.1 (eq_of_all (HLN.out.1.symm.trans HLN.out.2) (fun j hj => HJ.out j (by rw [HLN.out.1]; exact hj)))
        go_wp2
        go_ret
        exact ⟨rfl, HB.out⟩
  · rw [decide_eq_false (fun e => hl (congrArg List.length e))]
    have hd : ¬ (xs.length : Int) = (ys.length : Int) := by omega
    have hd2 : ((xs.length : Int) == (ys.length : Int)) = false := by simp; omega
    clear hA hA'
    go_enter Tryd.func54, Tryd.ntmps54
    go_wp2
    go_ret
    exact ⟨rfl, Below.refl _ _⟩

set_option maxRecDepth 100000 in
set_option maxHeartbeats 4000000 in
theorem equalFlank_any (A A' : Option Addr) (cap cap' : Nat) (xs ys : List Flk) (w : World) (hA : At w 4 Flk.enc A xs) (hA' : At w 4 Flk.enc A' ys) (hm : xs.length ≤ 9223372036854775807) :
    Calls Tryd.prog 55 #[.slice A xs.length cap, .slice A' ys.length cap'] w fun e w' => e = .returned (.bool (decide (xs = ys))) ∧ Below w.heap.size w w' := by
  by_cases hl : xs.length = ys.length
  · have hr : (xs = ys → decide (xs = ys) = true) ∧ (¬ xs = ys → decide (xs = ys) = false) := ⟨decide_eq_true, decide_eq_false⟩
    generalize decide (xs = ys) = r at hr ⊢
    have HX := Lib.hid hr
    obtain ⟨len, hlen⟩ : ∃ len, len = xs.length := ⟨_, rfl⟩
    rw [← hl]
    rw [← hlen] at hm ⊢
    have HLN := Lib.hid (⟨hlen, hlen.trans hl⟩ : _ ∧ _)
    have HA := Lib.hid hA
    have HA' := Lib.hid hA'
    clear hA hA' hlen hr hl
    go_enter Tryd.func55, Tryd.ntmps55
    go_wp2_with fail
    go_loopg [13] len (fun gg s13 wr => ∃ n : Nat, n ≤ len ∧ len - n ≤ gg ∧ s13 = .int .i64 n ∧ Hid (Below w.heap.size w wr) ∧ Hid (∀ (j : Nat), j < n → xs[j]? = ys[j]?))
    case atStart => exact ⟨0, Nat.zero_le _, by omega, rfl, Lib.hid (Below.refl _ w), Lib.hid (fun j hj => absurd hj (Nat.not_lt_zero _))⟩
    case round =>
      obtain ⟨n, hn, hg, rfl, HB, HJ⟩ := hrel
      by_cases hlt : n < len
      · obtain ⟨b, off, hAe, hrow⟩ := HA.out.get (by rw [← HLN.out.1]; exact hlt)
        subst hAe
        obtain ⟨b', off', hAe, hrow'⟩ := HA'.out.get (by rw [← HLN.out.2]; exact hlt)
        subst hAe
        obtain ⟨x, hx⟩ : ∃ x, xs[n]? = some x := ⟨xs[n]'(by rw [← HLN.out.1]; exact hlt), List.getElem?_eq_getElem _⟩
        obtain ⟨y, hy⟩ : ∃ y, ys[n]? = some y := ⟨ys[n]'(by rw [← HLN.out.2]; exact hlt), List.getElem?_eq_getElem _⟩
        have h0 := hrow.1
        have h0' := hrow'.1
        have c0 := (HB.out.cell (p := ⟨b, off + n * 4, none⟩) h0).trans (hrow.2 n x hx 0 _ rfl)
        have e0 := (HB.out.cell (p := ⟨b', off' + n * 4, none⟩) h0').trans (hrow'.2 n y hy 0 _ rfl)
        have c1 := (HB.out.cell (p := ⟨b, off + n * 4 + 1, none⟩) h0).trans (hrow.2 n x hx 1 _ rfl)
        have e1 := (HB.out.cell (p := ⟨b', off' + n * 4 + 1, none⟩) h0').trans (hrow'.2 n y hy 1 _ rfl)
        have c2 := (HB.out.cell (p := ⟨b, off + n * 4 + 2, none⟩) h0).trans (hrow.2 n x hx 2 _ rfl)
        have e2 := (HB.out.cell (p := ⟨b', off' + n * 4 + 2, none⟩) h0').trans (hrow'.2 n y hy 2 _ rfl)
        have c3 := (HB.out.cell (p := ⟨b, off + n * 4 + 3, none⟩) h0).trans (hrow.2 n x hx 3 _ rfl)
        have e3 := (HB.out.cell (p := ⟨b', off' + n * 4 + 3, none⟩) h0').trans (hrow'.2 n y hy 3 _ rfl)
        have lb := Nat.lt_of_lt_of_le h0 HB.out.size
        have lb' := Nat.lt_of_lt_of_le h0' HB.out.size
        have HXY := Lib.hid (⟨hx, hy⟩ : _ ∧ _)
        obtain ⟨xs, xway, xpt, xpos⟩ := x
        obtain ⟨ys, yway, ypt, ypos⟩ := y
        dsimp only at c0 e0 c1 e1 c2 e2 c3 e3
        clear hrow hrow' hx hy HA HA' h0 h0'
        by_cases h0 : xs = ys
        · subst h0
          by_cases h1 : xway = yway
          · subst h1
            by_cases h2 : xpt = ypt
            · subst h2
              by_cases h3 : xpos = ypos
              · subst h3
                go_wp2_with fail
                refine wp_region_ext (by kernel_rfl) (by kernel_rfl) fun hx => ?_
                repeat (go_big_quiet_step (fail))
                refine wpQuiet_nil ?_
                intro w5 b5
                go_wp2
                go_roundg (len - (n + 1))
                case measure => omega
                case rel =>
                  refine ⟨n + 1, by omega, by omega, by go_num, Lib.hid (bchain HB.out b5), Lib.hid (fun j hj => ?_)⟩
                  by_cases e : j = n
                  · subst e
                    rw [HXY.out.1, HXY.out.2]
                  · exact HJ.out j (by omega)
              · obtain rfl : r = false := HX.out.2 (fun e => by
                  have h1 := HXY.out.1
                  rw [e, HXY.out.2] at h1
                  cases h1
                  exact h3 rfl)
                go_wp2_with fail
                refine wp_region_ext (by kernel_rfl) (by kernel_rfl) fun hx => ?_
                repeat (go_big_quiet_step (fail))
                refine wpQuiet_nil ?_
                intro w5 b5
                go_wp2
                go_ret
                exact ⟨rfl, bchain HB.out b5⟩
            · obtain rfl : r = false := HX.out.2 (fun e => by
                have h1 := HXY.out.1
                rw [e, HXY.out.2] at h1
                cases h1
                exact h2 rfl)
              go_wp2_with fail
              refine wp_region_ext (by kernel_rfl) (by kernel_rfl) fun hx => ?_
              repeat (go_big_quiet_step (fail))
              refine wpQuiet_nil ?_
              intro w5 b5
              go_wp2
              go_ret
              exact ⟨rfl, bchain HB.out b5⟩
          · obtain rfl : r = false := HX.out.2 (fun e => by
              have h1 := HXY.out.1
              rw [e, HXY.out.2] at h1
              cases h1
              exact h1 rfl)
            go_wp2_with fail
            refine wp_region_ext (by kernel_rfl) (by kernel_rfl) fun hx => ?_
            repeat (go_big_quiet_step (fail))
            refine wpQuiet_nil ?_
            intro w5 b5
            go_wp2
            go_ret
            exact ⟨rfl, bchain HB.out b5⟩
        · obtain rfl : r = false := HX.out.2 (fun e => by
            have h1 := HXY.out.1
            rw [e, HXY.out.2] at h1
            cases h1
            exact h0 rfl)
          go_wp2_with fail
          refine wp_region_ext (by kernel_rfl) (by kernel_rfl) fun hx => ?_
          repeat (go_big_quiet_step (fail))
          refine wpQuiet_nil ?_
          intro w5 b5
          go_wp2
          go_ret
          exact ⟨rfl, bchain HB.out b5⟩
      · obtain rfl : n = len := by omega
        obtain rfl : r = true := HX.out.1 (eq_of_all (HLN.out.1.symm.trans HLN.out.2) (fun j hj => HJ.out j (by rw [HLN.out.1]; exact hj)))
        go_wp2
        go_ret
        exact ⟨rfl, HB.out⟩
  · rw [decide_eq_false (fun e => hl (congrArg List.length e))]
    have hd : ¬ (xs.length : Int) = (ys.length : Int) := by omega
    have hd2 : ((xs.length : Int) == (ys.length : Int)) = false := by simp; omega
    clear hA hA'
    go_enter Tryd.func55, Tryd.ntmps55
    go_wp2
    go_ret
    exact ⟨rfl, Below.refl _ _⟩

/-- A comparison: whether f tells the same of both. -/
def PB2 {α β : Type} [DecidableEq β] (g : Nat) (lb : Array Value) (enc : α → List Value) (f : α → β) (xs ys : List α) (w : World) : Prop :=
  ∀ (W : World) (x y : α), x ∈ xs → y ∈ ys → Below w.heap.size w W → Calls Tryd.prog g (#[.agg (enc x).toArray, .agg (enc y).toArray] ++ lb) W fun e w' => e = .returned (.bool (decide (f x = f y))) ∧ Below W.heap.size W w'
theorem map_eq_of {α β : Type} {f : α → β} {xs ys : List α} (hl : xs.length = ys.length) (h : ∀ (j : Nat) x y, j < xs.length → xs[j]? = some x → ys[j]? = some y → f x = f y) : xs.map f = ys.map f := by
  refine eq_of_all (by simpa using hl) (fun j hj => ?_)
  rw [List.length_map] at hj
  have hj' : j < ys.length := by omega
  rw [List.getElem?_map, List.getElem?_map, List.getElem?_eq_getElem hj, List.getElem?_eq_getElem hj']
  exact congrArg some (h j _ _ hj (List.getElem?_eq_getElem hj) (List.getElem?_eq_getElem hj'))
theorem map_ne_of {α β : Type} {f : α → β} {xs ys : List α} {j : Nat} {x y : α} (hx : xs[j]? = some x) (hy : ys[j]? = some y) (h : ¬ f x = f y) : ¬ xs.map f = ys.map f := by
  intro e
  have := congrArg (fun l => l[j]?) e
  simp only [List.getElem?_map, hx, hy, Option.map_some, Option.some.injEq] at this
  exact h this

set_option maxRecDepth 100000 in
set_option maxHeartbeats 4000000 in
theorem equalFuncSection_any {β : Type} [DecidableEq β] (g : Nat) (lb : Array Value) (eg : ∀ args w, (callFunc g args).run Tryd.prog w = .ok (.enter g args) w) (f : Sec → β) (A A' : Option Addr) (cap cap' : Nat) (xs ys : List Sec) (w : World)
    (hA : At w 11 Sec.enc A xs) (hA' : At w 11 Sec.enc A' ys) (hm : xs.length ≤ 9223372036854775807) (hp : PB2 g lb Sec.enc f xs ys w) :
    Calls Tryd.prog 53 #[.slice A xs.length cap, .slice A' ys.length cap', .func (.func g) #[] lb] w fun e w' => e = .returned (.bool (decide (xs.map f = ys.map f))) ∧ Below w.heap.size w w' := by
  by_cases hl : xs.length = ys.length
  · have hr : (xs.map f = ys.map f → decide (xs.map f = ys.map f) = true) ∧ (¬ xs.map f = ys.map f → decide (xs.map f = ys.map f) = false) := ⟨decide_eq_true, decide_eq_false⟩
    generalize decide (xs.map f = ys.map f) = r at hr ⊢
    have HX := Lib.hid hr
    obtain ⟨len, hlen⟩ : ∃ len, len = xs.length := ⟨_, rfl⟩
    rw [← hl]
    rw [← hlen] at hm ⊢
    have HLN := Lib.hid (⟨hlen, hlen.trans hl⟩ : _ ∧ _)
    have HA := Lib.hid hA
    have HA' := Lib.hid hA'
    have HP := Lib.hid hp
    clear hA hA' hlen hr hl hp
    go_enter Tryd.func53, Tryd.ntmps53
    go_wp2_with fail
    go_loopg [17] len (fun gg s17 wr => ∃ n : Nat, n ≤ len ∧ len - n ≤ gg ∧ s17 = .int .i64 n ∧ Hid (Below w.heap.size w wr) ∧ Hid (∀ (j : Nat) x y, j < n → xs[j]? = some x → ys[j]? = some y → f x = f y))
    case atStart => exact ⟨0, Nat.zero_le _, by omega, rfl, Lib.hid (Below.refl _ w), Lib.hid (fun j x y hj => absurd hj (Nat.not_lt_zero _))⟩
    case round =>
      obtain ⟨n, hn, hg, rfl, HB, HJ⟩ := hrel
      by_cases hlt : n < len
      · obtain ⟨b, off, hAe, hrow⟩ := HA.out.get (by rw [← HLN.out.1]; exact hlt)
        subst hAe
        obtain ⟨b', off', hAe, hrow'⟩ := HA'.out.get (by rw [← HLN.out.2]; exact hlt)
        subst hAe
        obtain ⟨x, hx⟩ : ∃ x, xs[n]? = some x := ⟨xs[n]'(by rw [← HLN.out.1]; exact hlt), List.getElem?_eq_getElem _⟩
        obtain ⟨y, hy⟩ : ∃ y, ys[n]? = some y := ⟨ys[n]'(by rw [← HLN.out.2]; exact hlt), List.getElem?_eq_getElem _⟩
        have h0 := hrow.1
        have h0' := hrow'.1
        have c0 := (HB.out.cell (p := ⟨b, off + n * 11, none⟩) h0).trans (hrow.2 n x hx 0 _ rfl)
        have e0 := (HB.out.cell (p := ⟨b', off' + n * 11, none⟩) h0').trans (hrow'.2 n y hy 0 _ rfl)
        have c1 := (HB.out.cell (p := ⟨b, off + n * 11 + 1, none⟩) h0).trans (hrow.2 n x hx 1 _ rfl)
        have e1 := (HB.out.cell (p := ⟨b', off' + n * 11 + 1, none⟩) h0').trans (hrow'.2 n y hy 1 _ rfl)
        have c2 := (HB.out.cell (p := ⟨b, off + n * 11 + 2, none⟩) h0).trans (hrow.2 n x hx 2 _ rfl)
        have e2 := (HB.out.cell (p := ⟨b', off' + n * 11 + 2, none⟩) h0').trans (hrow'.2 n y hy 2 _ rfl)
        have c3 := (HB.out.cell (p := ⟨b, off + n * 11 + 3, none⟩) h0).trans (hrow.2 n x hx 3 _ rfl)
        have e3 := (HB.out.cell (p := ⟨b', off' + n * 11 + 3, none⟩) h0').trans (hrow'.2 n y hy 3 _ rfl)
        have c4 := (HB.out.cell (p := ⟨b, off + n * 11 + 4, none⟩) h0).trans (hrow.2 n x hx 4 _ rfl)
        have e4 := (HB.out.cell (p := ⟨b', off' + n * 11 + 4, none⟩) h0').trans (hrow'.2 n y hy 4 _ rfl)
        have c5 := (HB.out.cell (p := ⟨b, off + n * 11 + 5, none⟩) h0).trans (hrow.2 n x hx 5 _ rfl)
        have e5 := (HB.out.cell (p := ⟨b', off' + n * 11 + 5, none⟩) h0').trans (hrow'.2 n y hy 5 _ rfl)
        have c6 := (HB.out.cell (p := ⟨b, off + n * 11 + 6, none⟩) h0).trans (hrow.2 n x hx 6 _ rfl)
        have e6 := (HB.out.cell (p := ⟨b', off' + n * 11 + 6, none⟩) h0').trans (hrow'.2 n y hy 6 _ rfl)
        have c7 := (HB.out.cell (p := ⟨b, off + n * 11 + 7, none⟩) h0).trans (hrow.2 n x hx 7 _ rfl)
        have e7 := (HB.out.cell (p := ⟨b', off' + n * 11 + 7, none⟩) h0').trans (hrow'.2 n y hy 7 _ rfl)
        have c8 := (HB.out.cell (p := ⟨b, off + n * 11 + 8, none⟩) h0).trans (hrow.2 n x hx 8 _ rfl)
        have e8 := (HB.out.cell (p := ⟨b', off' + n * 11 + 8, none⟩) h0').trans (hrow'.2 n y hy 8 _ rfl)
        have c9 := (HB.out.cell (p := ⟨b, off + n * 11 + 9, none⟩) h0).trans (hrow.2 n x hx 9 _ rfl)
        have e9 := (HB.out.cell (p := ⟨b', off' + n * 11 + 9, none⟩) h0').trans (hrow'.2 n y hy 9 _ rfl)
        have c10 := (HB.out.cell (p := ⟨b, off + n * 11 + 10, none⟩) h0).trans (hrow.2 n x hx 10 _ rfl)
        have e10 := (HB.out.cell (p := ⟨b', off' + n * 11 + 10, none⟩) h0').trans (hrow'.2 n y hy 10 _ rfl)
        have lb' := Nat.lt_of_lt_of_le h0 HB.out.size
        have lb'' := Nat.lt_of_lt_of_le h0' HB.out.size
        have lb1 : b < wr.heap.size + 1 := by omega
        have lb1' : b' < wr.heap.size + 1 := by omega
        have hcall := fun W hW => HP.out W x y (List.mem_of_getElem? hx) (List.mem_of_getElem? hy) (bchain HB.out hW)
        obtain ⟨q, hq⟩ : ∃ q, q = decide (f x = f y) := ⟨_, rfl⟩
        rw [← hq] at hcall
        have HC := Lib.hid hcall
        have HXY := Lib.hid (⟨hx, hy, hq⟩ : _ ∧ _ ∧ _)
        clear hrow hrow' hx hy hq hcall HA HA' h0 h0'
        go_wp2_with fail
        refine (HC.out _ (bchain bself bself)).mono ?_
        rintro e w1 ⟨rfl, b1⟩
        have HB1 := Lib.hid (bchain HB.out (bchain (bchain bself bself) b1))
        clear b1
        cases q with
        | false =>
          obtain rfl : r = false := HX.out.2 (map_ne_of HXY.out.1 HXY.out.2.1 (of_decide_eq_false HXY.out.2.2.symm))
          go_wp2
          go_ret
          exact ⟨rfl, HB1.out⟩
        | true =>
          go_wp2
          go_roundg (len - (n + 1))
          case measure => omega
          case rel =>
            refine ⟨n + 1, by omega, by omega, by go_num, HB1, Lib.hid (fun j u v hj hu hv => ?_)⟩
            by_cases e : j = n
            · subst e
              rw [HXY.out.1] at hu
              rw [HXY.out.2.1] at hv
              cases hu
              cases hv
              exact of_decide_eq_true HXY.out.2.2.symm
            · exact HJ.out j u v (by omega) hu hv
      · obtain rfl : n = len := by omega
        obtain rfl : r = true := HX.out.1 (map_eq_of (HLN.out.1.symm.trans HLN.out.2) (fun j u v hj hu hv => HJ.out j u v (by rw [HLN.out.1]; exact hj) hu hv))
        go_wp2
        go_ret
        exact ⟨rfl, HB.out⟩
  · rw [decide_eq_false (fun e => hl (by simpa using congrArg List.length e))]
    have hd : ¬ (xs.length : Int) = (ys.length : Int) := by omega
    have hd2 : ((xs.length : Int) == (ys.length : Int)) = false := by simp; omega
    clear hA hA' hp
    go_enter Tryd.func53, Tryd.ntmps53
    go_wp2
    go_ret
    exact ⟨rfl, Below.refl _ _⟩

set_option maxRecDepth 100000 in
set_option maxHeartbeats 4000000 in
theorem equalFuncExit_any {β : Type} [DecidableEq β] (g : Nat) (lb : Array Value) (eg : ∀ args w, (callFunc g args).run Tryd.prog w = .ok (.enter g args) w) (f : (Ext' × Value) → β) (A A' : Option Addr) (cap cap' : Nat) (xs ys : List (Ext' × Value)) (w : World)
    (hA : At w 3 Ext'.enc A xs) (hA' : At w 3 Ext'.enc A' ys) (hm : xs.length ≤ 9223372036854775807) (hp : PB2 g lb Ext'.enc f xs ys w) (hs : ∀ e ∈ xs, ∃ A n c, e.2 = .slice A n c) (hs' : ∀ e ∈ ys, ∃ A n c, e.2 = .slice A n c) :
    Calls Tryd.prog 56 #[.slice A xs.length cap, .slice A' ys.length cap', .func (.func g) #[] lb] w fun e w' => e = .returned (.bool (decide (xs.map f = ys.map f))) ∧ Below w.heap.size w w' := by
  by_cases hl : xs.length = ys.length
  · have hr : (xs.map f = ys.map f → decide (xs.map f = ys.map f) = true) ∧ (¬ xs.map f = ys.map f → decide (xs.map f = ys.map f) = false) := ⟨decide_eq_true, decide_eq_false⟩
    generalize decide (xs.map f = ys.map f) = r at hr ⊢
    have HX := Lib.hid hr
    obtain ⟨len, hlen⟩ : ∃ len, len = xs.length := ⟨_, rfl⟩
    rw [← hl]
    rw [← hlen] at hm ⊢
    have HLN := Lib.hid (⟨hlen, hlen.trans hl⟩ : _ ∧ _)
    have HA := Lib.hid hA
    have HA' := Lib.hid hA'
    have HP := Lib.hid hp
    have HS := Lib.hid (⟨hs, hs'⟩ : _ ∧ _)
    clear hs hs'
    clear hA hA' hlen hr hl hp
    go_enter Tryd.func56, Tryd.ntmps56
    go_wp2_with fail
    go_loopg [17] len (fun gg s17 wr => ∃ n : Nat, n ≤ len ∧ len - n ≤ gg ∧ s17 = .int .i64 n ∧ Hid (Below w.heap.size w wr) ∧ Hid (∀ (j : Nat) x y, j < n → xs[j]? = some x → ys[j]? = some y → f x = f y))
    case atStart => exact ⟨0, Nat.zero_le _, by omega, rfl, Lib.hid (Below.refl _ w), Lib.hid (fun j x y hj => absurd hj (Nat.not_lt_zero _))⟩
    case round =>
      obtain ⟨n, hn, hg, rfl, HB, HJ⟩ := hrel
      by_cases hlt : n < len
      · obtain ⟨b, off, hAe, hrow⟩ := HA.out.get (by rw [← HLN.out.1]; exact hlt)
        subst hAe
        obtain ⟨b', off', hAe, hrow'⟩ := HA'.out.get (by rw [← HLN.out.2]; exact hlt)
        subst hAe
        obtain ⟨x, hx⟩ : ∃ x, xs[n]? = some x := ⟨xs[n]'(by rw [← HLN.out.1]; exact hlt), List.getElem?_eq_getElem _⟩
        obtain ⟨y, hy⟩ : ∃ y, ys[n]? = some y := ⟨ys[n]'(by rw [← HLN.out.2]; exact hlt), List.getElem?_eq_getElem _⟩
        have h0 := hrow.1
        have h0' := hrow'.1
        have c0 := (HB.out.cell (p := ⟨b, off + n * 3, none⟩) h0).trans (hrow.2 n x hx 0 _ rfl)
        have e0 := (HB.out.cell (p := ⟨b', off' + n * 3, none⟩) h0').trans (hrow'.2 n y hy 0 _ rfl)
        have c1 := (HB.out.cell (p := ⟨b, off + n * 3 + 1, none⟩) h0).trans (hrow.2 n x hx 1 _ rfl)
        have e1 := (HB.out.cell (p := ⟨b', off' + n * 3 + 1, none⟩) h0').trans (hrow'.2 n y hy 1 _ rfl)
        have c2 := (HB.out.cell (p := ⟨b, off + n * 3 + 2, none⟩) h0).trans (hrow.2 n x hx 2 _ rfl)
        have e2 := (HB.out.cell (p := ⟨b', off' + n * 3 + 2, none⟩) h0').trans (hrow'.2 n y hy 2 _ rfl)
        have lb' := Nat.lt_of_lt_of_le h0 HB.out.size
        have lb'' := Nat.lt_of_lt_of_le h0' HB.out.size
        have lb1 : b < wr.heap.size + 1 := by omega
        have lb1' : b' < wr.heap.size + 1 := by omega
        have hcall := fun W hW => HP.out W x y (List.mem_of_getElem? hx) (List.mem_of_getElem? hy) (bchain HB.out hW)
        obtain ⟨q, hq⟩ : ∃ q, q = decide (f x = f y) := ⟨_, rfl⟩
        rw [← hq] at hcall
        obtain ⟨vA, vn, vc, ve⟩ := HS.out.1 x (List.mem_of_getElem? hx)
        obtain ⟨uA, un, uc, ue⟩ := HS.out.2 y (List.mem_of_getElem? hy)
        unfold Ext'.enc at hcall
        rw [ve] at c2
        rw [ue] at e2
        simp only [ve, ue] at hcall
        clear ve ue
        have HC := Lib.hid hcall
        have HXY := Lib.hid (⟨hx, hy, hq⟩ : _ ∧ _ ∧ _)
        clear hrow hrow' hx hy hq hcall HA HA' h0 h0'
        go_wp2_with fail
        refine (HC.out _ (bchain bself bself)).mono ?_
        rintro e w1 ⟨rfl, b1⟩
        have HB1 := Lib.hid (bchain HB.out (bchain (bchain bself bself) b1))
        clear b1
        cases q with
        | false =>
          obtain rfl : r = false := HX.out.2 (map_ne_of HXY.out.1 HXY.out.2.1 (of_decide_eq_false HXY.out.2.2.symm))
          go_wp2
          go_ret
          exact ⟨rfl, HB1.out⟩
        | true =>
          go_wp2
          go_roundg (len - (n + 1))
          case measure => omega
          case rel =>
            refine ⟨n + 1, by omega, by omega, by go_num, HB1, Lib.hid (fun j u v hj hu hv => ?_)⟩
            by_cases e : j = n
            · subst e
              rw [HXY.out.1] at hu
              rw [HXY.out.2.1] at hv
              cases hu
              cases hv
              exact of_decide_eq_true HXY.out.2.2.symm
            · exact HJ.out j u v (by omega) hu hv
      · obtain rfl : n = len := by omega
        obtain rfl : r = true := HX.out.1 (map_eq_of (HLN.out.1.symm.trans HLN.out.2) (fun j u v hj hu hv => HJ.out j u v (by rw [HLN.out.1]; exact hj) hu hv))
        go_wp2
        go_ret
        exact ⟨rfl, HB.out⟩
  · rw [decide_eq_false (fun e => hl (by simpa using congrArg List.length e))]
    have hd : ¬ (xs.length : Int) = (ys.length : Int) := by omega
    have hd2 : ((xs.length : Int) == (ys.length : Int)) = false := by simp; omega
    clear hA hA' hp hs hs'
    go_enter Tryd.func56, Tryd.ntmps56
    go_wp2
    go_ret
    exact ⟨rfl, Below.refl _ _⟩

theorem stood_port : Tryd.prog.stoodInHeld 31 = false := by kernel_rfl
theorem info_port : ∃ i, Tryd.prog.info? 31 = some i := Option.isSome_iff_exists.1 (show (Tryd.prog.info? 31).isSome = true by kernel_rfl)
theorem cells_port : Tryd.prog.cellsOf 31 = 2 := by kernel_rfl
set_option maxRecDepth 100000 in
theorem eql_port (d : Nat) (x0 x1 y0 y1 : Int) (w : World) : (Op.equalIn (d + 2) 31 (.agg #[.int .i64 x0, .int .i64 x1]) (.agg #[.int .i64 y0, .int .i64 y1])).run Tryd.prog w = .ok (x0 == y0 && x1 == y1) w := by
  rw [run_equalIn_struct w (d + 1) 31 _ _ (by kernel_rfl) stood_port]
  by_cases h0 : x0 = y0 <;> by_cases h1 : x1 = y1 <;> simp [Op.eqFields, go_sem, Tryd.underlying31, h0, h1]
set_option maxRecDepth 100000 in
theorem eql_join (x0 x1 x2 x3 x4 x5 x6 x7 y0 y1 y2 y3 y4 y5 y6 y7 : Int) (w : World) : (Op.equalIn 10000 36 (.agg #[.int .i64 x0, .int .i64 x1, .int .i64 x2, .int .i64 x3, .int .i64 x4, .int .i64 x5, .int .i64 x6, .int .i64 x7]) (.agg #[.int .i64 y0, .int .i64 y1, .int .i64 y2, .int .i64 y3, .int .i64 y4, .int .i64 y5, .int .i64 y6, .int .i64 y7])).run Tryd.prog w = .ok ((x0 == y0 && x1 == y1) && ((x2 == y2 && x3 == y3) && ((x4 == y4 && x5 == y5) && (x6 == y6 && x7 == y7)))) w := by
  obtain ⟨i, hi⟩ := info_port
  have h := run_equalIn_array (P := Tryd.prog) (w := w) (9998 + 1) (t := 36) (e := 31) (n := 4) (i := i) #[.int .i64 x0, .int .i64 x1, .int .i64 x2, .int .i64 x3, .int .i64 x4, .int .i64 x5, .int .i64 x6, .int .i64 x7] #[.int .i64 y0, .int .i64 y1, .int .i64 y2, .int .i64 y3, .int .i64 y4, .int .i64 y5, .int .i64 y6, .int .i64 y7] Tryd.underlying36 hi
  refine h.trans ?_
  rw [cells_port]
  have e := fun a b c d w => eql_port 9997 a b c d w
  simp only [Nat.reduceAdd] at e ⊢
  simp [Op.eqItems, List.range, List.range.loop, go_sem, e]
  repeat' split
  all_goals simp_all
theorem cells_int : Tryd.prog.cellsOf 3 = 1 := by kernel_rfl
theorem info_int' : ∃ i, Tryd.prog.info? 3 = some i := Option.isSome_iff_exists.1 (show (Tryd.prog.info? 3).isSome = true by kernel_rfl)
set_option maxRecDepth 100000 in
theorem eql_class (x0 x1 y0 y1 : Int) (w : World) : (Op.equalIn 10000 37 (.agg #[.int .i64 x0, .int .i64 x1]) (.agg #[.int .i64 y0, .int .i64 y1])).run Tryd.prog w = .ok (x0 == y0 && x1 == y1) w := by
  obtain ⟨i, hi⟩ := info_int'
  have h := run_equalIn_array (P := Tryd.prog) (w := w) (9998 + 1) (t := 37) (e := 3) (n := 2) (i := i) #[.int .i64 x0, .int .i64 x1] #[.int .i64 y0, .int .i64 y1] Tryd.underlying37 hi
  refine h.trans ?_
  rw [cells_int]
  have e := fun a b w => run_equalIn_int (P := Tryd.prog) w 9998 3 .i64 .i64 a b Tryd.underlying3
  simp only [Nat.reduceAdd] at e ⊢
  simp [Op.eqItems, List.range, List.range.loop, go_sem, e]
  repeat' split
  all_goals simp_all
attribute [local go_sem] eql_join eql_class

set_option maxRecDepth 100000 in
set_option maxHeartbeats 4000000 in
theorem same2_any (x y : Sec) (w : World) :
    Calls Tryd.prog 52 #[.agg x.enc.toArray, .agg y.enc.toArray] w fun e w' => e = .returned (.bool (decide (x = y))) ∧ Below w.heap.size w w' := by
  have hr : (x = y → decide (x = y) = true) ∧ (¬ x = y → decide (x = y) = false) := ⟨decide_eq_true, decide_eq_false⟩
  generalize decide (x = y) = r at hr ⊢
  have HX := Lib.hid hr
  clear hr
  obtain ⟨xk, xs0, xp0, xs1, xp1, xs2, xp2, xs3, xp3, xc0, xc1⟩ := x
  obtain ⟨yk, ys0, yp0, ys1, yp1, ys2, yp2, ys3, yp3, yc0, yc1⟩ := y
  unfold Sec.enc
  by_cases h0 : xs0 = ys0
  · subst h0
    by_cases h1 : xp0 = yp0
    · subst h1
      by_cases h2 : xs1 = ys1
      · subst h2
        by_cases h3 : xp1 = yp1
        · subst h3
          by_cases h4 : xs2 = ys2
          · subst h4
            by_cases h5 : xp2 = yp2
            · subst h5
              by_cases h6 : xs3 = ys3
              · subst h6
                by_cases h7 : xp3 = yp3
                · subst h7
                  by_cases h8 : xc0 = yc0
                  · subst h8
                    by_cases h9 : xc1 = yc1
                    · subst h9
                      by_cases h10 : xk = yk
                      · subst h10
                        obtain rfl : r = true := HX.out.1 rfl
                        go_enter Tryd.func52, Tryd.ntmps52
                        go_wp2
                        go_ret
                        exact ⟨rfl, bchain bself bself⟩
                      · obtain rfl : r = false := HX.out.2 (fun e => by cases e; exact h10 rfl)
                        have d10 : (xk == yk) = false := by simpa using h10
                        go_enter Tryd.func52, Tryd.ntmps52
                        go_wp2
                        go_ret
                        exact ⟨rfl, bchain bself bself⟩
                    · obtain rfl : r = false := HX.out.2 (fun e => by cases e; exact h9 rfl)
                      have d9 : (xc1 == yc1) = false := by simpa using h9
                      go_enter Tryd.func52, Tryd.ntmps52
                      go_wp2
                      go_ret
                      exact ⟨rfl, bchain bself bself⟩
                  · obtain rfl : r = false := HX.out.2 (fun e => by cases e; exact h8 rfl)
                    have d8 : (xc0 == yc0) = false := by simpa using h8
                    go_enter Tryd.func52, Tryd.ntmps52
                    go_wp2
                    go_ret
                    exact ⟨rfl, bchain bself bself⟩
                · obtain rfl : r = false := HX.out.2 (fun e => by cases e; exact h7 rfl)
                  have d7 : (xp3 == yp3) = false := by simpa using h7
                  go_enter Tryd.func52, Tryd.ntmps52
                  go_wp2
                  go_ret
                  exact ⟨rfl, bchain bself bself⟩
              · obtain rfl : r = false := HX.out.2 (fun e => by cases e; exact h6 rfl)
                have d6 : (xs3 == ys3) = false := by simpa using h6
                go_enter Tryd.func52, Tryd.ntmps52
                go_wp2
                go_ret
                exact ⟨rfl, bchain bself bself⟩
            · obtain rfl : r = false := HX.out.2 (fun e => by cases e; exact h5 rfl)
              have d5 : (xp2 == yp2) = false := by simpa using h5
              go_enter Tryd.func52, Tryd.ntmps52
              go_wp2
              go_ret
              exact ⟨rfl, bchain bself bself⟩
          · obtain rfl : r = false := HX.out.2 (fun e => by cases e; exact h4 rfl)
            have d4 : (xs2 == ys2) = false := by simpa using h4
            go_enter Tryd.func52, Tryd.ntmps52
            go_wp2
            go_ret
            exact ⟨rfl, bchain bself bself⟩
        · obtain rfl : r = false := HX.out.2 (fun e => by cases e; exact h3 rfl)
          have d3 : (xp1 == yp1) = false := by simpa using h3
          go_enter Tryd.func52, Tryd.ntmps52
          go_wp2
          go_ret
          exact ⟨rfl, bchain bself bself⟩
      · obtain rfl : r = false := HX.out.2 (fun e => by cases e; exact h2 rfl)
        have d2 : (xs1 == ys1) = false := by simpa using h2
        go_enter Tryd.func52, Tryd.ntmps52
        go_wp2
        go_ret
        exact ⟨rfl, bchain bself bself⟩
    · obtain rfl : r = false := HX.out.2 (fun e => by cases e; exact h1 rfl)
      have d1 : (xp0 == yp0) = false := by simpa using h1
      go_enter Tryd.func52, Tryd.ntmps52
      go_wp2
      go_ret
      exact ⟨rfl, bchain bself bself⟩
  · obtain rfl : r = false := HX.out.2 (fun e => by cases e; exact h0 rfl)
    have d0 : (xs0 == ys0) = false := by simpa using h0
    go_enter Tryd.func52, Tryd.ntmps52
    go_wp2
    go_ret
    exact ⟨rfl, bchain bself bself⟩

set_option maxRecDepth 100000 in
set_option maxHeartbeats 4000000 in
theorem same1_any (x y : Ext' × Value) (w : World) (hx : Sl w 3 Stp.enc x.2 x.1.over) (hy : Sl w 3 Stp.enc y.2 y.1.over) :
    Calls Tryd.prog 50 #[.agg (Ext'.enc x).toArray, .agg (Ext'.enc y).toArray] w fun e w' => e = .returned (.bool (decide (x.1 = y.1))) ∧ Below w.heap.size w w' := by
  have hr : (x.1.s = y.1.s → x.1.p = y.1.p → decide (x.1 = y.1) = decide (x.1.over = y.1.over)) ∧ (¬ x.1.s = y.1.s → decide (x.1 = y.1) = false) ∧ (¬ x.1.p = y.1.p → decide (x.1 = y.1) = false) := by
    obtain ⟨⟨xs, xp, xo⟩, xv⟩ := x
    obtain ⟨⟨ys, yp, yo⟩, yv⟩ := y
    refine ⟨fun h1 h2 => ?_, fun h => decide_eq_false (fun e => h (by cases e; rfl)), fun h => decide_eq_false (fun e => h (by cases e; rfl))⟩
    dsimp only at h1 h2
    subst h1 h2
    simp
  generalize decide (x.1 = y.1) = r at hr ⊢
  obtain ⟨A, cap, e1, l1, m1, hA⟩ := hx
  obtain ⟨A', cap', e2, l2, m2, hA'⟩ := hy
  have he := fun W (hW : Below w.heap.size w W) => equalStep_any A A' cap cap' x.1.over y.1.over W (hA.below hW) (hA'.below hW) (Nat.le_trans l1 m1)
  unfold Ext'.enc
  rw [e1, e2]
  obtain ⟨q, hq⟩ : ∃ q, q = decide (x.1.over = y.1.over) := ⟨_, rfl⟩
  rw [← hq] at he hr
  generalize x.1.over.length = n1 at he ⊢
  generalize y.1.over.length = n2 at he ⊢
  generalize x.1.s = xs at hr ⊢
  generalize y.1.s = ys at hr ⊢
  generalize x.1.p = xp at hr ⊢
  generalize y.1.p = yp at hr ⊢
  have HX := Lib.hid hr
  have HE := Lib.hid he
  clear hr he hA hA' e1 e2 l1 l2 m1 m2 hq
  by_cases h1 : xs = ys
  · subst h1
    by_cases h2 : xp = yp
    · subst h2
      obtain rfl : r = q := HX.out.1 rfl rfl
      go_enter Tryd.func50, Tryd.ntmps50
      go_wp2_with fail
      (with_reducible refine (HE.out _ (bchain bself bself)).mono ?_)
      rintro e w1 ⟨rfl, b1⟩
      go_wp2
      go_ret
      exact ⟨rfl, bchain (bchain bself bself) b1⟩
    · obtain rfl : r = false := HX.out.2.2 h2
      go_enter Tryd.func50, Tryd.ntmps50
      go_wp2
      go_ret
      exact ⟨rfl, bchain bself bself⟩
  · obtain rfl : r = false := HX.out.2.1 h1
    go_enter Tryd.func50, Tryd.ntmps50
    go_wp2
    go_ret
    exact ⟨rfl, bchain bself bself⟩
end Go.Proofs.YtkphihbimdffjaaDoor
