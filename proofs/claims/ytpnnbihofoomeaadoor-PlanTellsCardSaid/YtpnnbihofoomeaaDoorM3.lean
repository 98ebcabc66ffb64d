/-
  lockbarref06.Steps, Same.
-/
import Derived.Test.YtpnnbihofoomeaaDoorM2
import Derived.ArgAppend
import Derived.Lib.AppendZerosOnto
import Derived.Lib.AppendZeros
import Derived.StillTail
import Derived.Deep.RegionHeld3
import Derived.OrdersIn
import Derived.RangeFuncCalls
import Derived.TacticsIn

namespace Go.Proofs.YtpnnbihofoomeaaDoor
open Go.RowKit Go.Shelf

set_option maxRecDepth 100000 in
theorem eqQ_times (L M : Lay) (w : World) : (Op.equalIn 10000 27 (.agg #[.int .i64 L.t0, .int .i64 L.t1, .int .i64 L.t2, .int .i64 L.t3, .int .i64 L.t4, .int .i64 L.t5, .int .i64 L.t6]) (.agg #[.int .i64 M.t0, .int .i64 M.t1, .int .i64 M.t2, .int .i64 M.t3, .int .i64 M.t4, .int .i64 M.t5, .int .i64 M.t6])).run Tryd.prog w = .ok (decide (L.times = M.times)) w := by
  unfold Lay.times
  rw [run_equalIn_struct w 9999 27 _ _ (by kernel_rfl) (by kernel_rfl)]
  by_cases h0 : L.t0 = M.t0
  · by_cases h1 : L.t1 = M.t1
    · by_cases h2 : L.t2 = M.t2
      · by_cases h3 : L.t3 = M.t3
        · by_cases h4 : L.t4 = M.t4
          · by_cases h5 : L.t5 = M.t5
            · by_cases h6 : L.t6 = M.t6 <;> simp [Op.eqFields, go_sem, Tryd.underlying27, h0, h1, h2, h3, h4, h5, h6]
            · simp [Op.eqFields, go_sem, Tryd.underlying27, h0, h1, h2, h3, h4, h5]
          · simp [Op.eqFields, go_sem, Tryd.underlying27, h0, h1, h2, h3, h4]
        · simp [Op.eqFields, go_sem, Tryd.underlying27, h0, h1, h2, h3]
      · simp [Op.eqFields, go_sem, Tryd.underlying27, h0, h1, h2]
    · simp [Op.eqFields, go_sem, Tryd.underlying27, h0, h1]
  · simp [Op.eqFields, go_sem, Tryd.underlying27, h0]
set_option maxRecDepth 100000 in
theorem eqQ_portI (x0 x1 y0 y1 : Int) (w : World) : (Op.equalIn 10000 48 (.agg #[.int .i64 x0, .int .i64 x1]) (.agg #[.int .i64 y0, .int .i64 y1])).run Tryd.prog w = .ok (decide (x0 = y0 ∧ x1 = y1)) w := by
  rw [run_equalIn_struct w 9999 48 _ _ (by kernel_rfl) stoodE_port]
  by_cases h0 : x0 = y0 <;> by_cases h1 : x1 = y1 <;> simp [Op.eqFields, go_sem, Tryd.underlying48, h0, h1]
attribute [local go_sem ↓ high] eqQ_portI eqQ_signal eqQ_step eqQ_flank eqQ_sec eqQ_times

theorem ne_at {α : Type} {xs ys : List α} {n : Nat} {x y : α} (hx : xs[n]? = some x) (hy : ys[n]? = some y) (h : x ≠ y) : xs ≠ ys := fun e => h (by rw [e, hy] at hx; exact (Option.some.inj hx).symm)
theorem eq_all {α : Type} {xs ys : List α} (hl : xs.length = ys.length) (h : ∀ (j : Nat) (x y : α), j < xs.length → xs[j]? = some x → ys[j]? = some y → x = y) : xs = ys := by
  refine eq_of_all hl fun j hj => ?_
  rw [List.getElem?_eq_getElem hj, List.getElem?_eq_getElem (by omega)]
  congr 1
  exact h j _ _ hj (List.getElem?_eq_getElem hj) (List.getElem?_eq_getElem (by omega))

set_option maxRecDepth 100000 in
set_option maxHeartbeats 8000000 in
theorem rSteps_any (A A' : Option Addr) (cap cap' : Nat) (xs ys : List Stp) (w : World) (hA : At w 3 Stp.enc A xs) (hA' : At w 3 Stp.enc A' ys) (hm : xs.length ≤ 9223372036854775807) :
    Calls Tryd.prog 37 #[.slice A xs.length cap, .slice A' ys.length cap'] w fun e w' => e = .returned (.bool (decide (xs = ys))) ∧ Below w.heap.size w w' := by
  obtain ⟨r, hr⟩ : ∃ r, r = decide (xs = ys) := ⟨_, rfl⟩
  rw [← hr]
  have hf : xs ≠ ys → r = false := fun h => hr.trans (decide_eq_false h)
  have ht : xs = ys → r = true := fun h => hr.trans (decide_eq_true h)
  have HF := Lib.hid hf
  have HT := Lib.hid ht
  have HA := Lib.hid hA
  have HA' := Lib.hid hA'
  clear hr hf ht hA hA'
  by_cases hl : xs.length = ys.length
  · have HLE := Lib.hid hl
    have d0 : ((xs.length : Int) == (ys.length : Int)) = true := by simp; omega
    have d1 : ((xs.length : Int) != (ys.length : Int)) = false := by simp; omega
    have hl' : ys.length ≤ xs.length ∧ xs.length ≤ ys.length := by omega
    obtain ⟨hl1, hl2⟩ := hl'
    clear hl
    go_enter Tryd.func37, Tryd.ntmps37
    go_wp2_with fail
    go_loopw [5] (fun c wr => ∃ n : Nat, n ≤ xs.length ∧ c = .int .i64 n ∧ Hid (∀ (j : Nat) (x y : Stp), j < n → xs[j]? = some x → ys[j]? = some y → x = y) ∧ Hid (Below w.heap.size w wr)) (fun c _ => xs.length - (intOf c).toNat)
    case atStart => exact ⟨0, by omega, rfl, Lib.hid (fun j x y hj => absurd hj (Nat.not_lt_zero _)), Lib.hid (Below.refl _ _)⟩
    case round =>
      obtain ⟨n, hn, rfl, HJ, HB⟩ := hrel
      obtain ⟨V, rfl⟩ : ∃ V : World, V = wr := ⟨_, rfl⟩
      by_cases hlt : n < xs.length
      · obtain ⟨b, off, hAe, hrow⟩ := HA.out.get hlt
        obtain ⟨b2, off2, hAe2, hrow2⟩ := HA'.out.get (j := n) (by omega)
        subst hAe hAe2
        obtain ⟨x, hx⟩ : ∃ x, xs[n]? = some x := ⟨xs[n], List.getElem?_eq_getElem hlt⟩
        obtain ⟨y, hy⟩ : ∃ y, ys[n]? = some y := ⟨ys[n]'(by omega), List.getElem?_eq_getElem (by omega)⟩
        have c0 : V.cell? ⟨b, off + n * 3, none⟩ = some (.int .i64 x.s) := (hrow.below HB.out).2 n x hx 0 _ rfl
        have c1 : V.cell? ⟨b, off + n * 3 + 1, none⟩ = some (.int .i64 x.i) := (hrow.below HB.out).2 n x hx 1 _ rfl
        have c2 : V.cell? ⟨b, off + n * 3 + 2, none⟩ = some (.int .i64 x.o) := (hrow.below HB.out).2 n x hx 2 _ rfl
        have e0 : V.cell? ⟨b2, off2 + n * 3, none⟩ = some (.int .i64 y.s) := (hrow2.below HB.out).2 n y hy 0 _ rfl
        have e1 : V.cell? ⟨b2, off2 + n * 3 + 1, none⟩ = some (.int .i64 y.i) := (hrow2.below HB.out).2 n y hy 1 _ rfl
        have e2 : V.cell? ⟨b2, off2 + n * 3 + 2, none⟩ = some (.int .i64 y.o) := (hrow2.below HB.out).2 n y hy 2 _ rfl
        have lb : b < V.heap.size := (hrow.below HB.out).1
        have lb2 : b2 < V.heap.size := (hrow2.below HB.out).1
        have hlt2 : n < ys.length := by omega
        have next : x = y → Hid (∀ (j : Nat) (x y : Stp), j < n + 1 → xs[j]? = some x → ys[j]? = some y → x = y) := fun h => Lib.hid fun j x' y' hj hx' hy' => by
          by_cases e : j = n
          · subst e
            rw [hx] at hx'
            rw [hy] at hy'
            cases hx'
            cases hy'
            exact h
          · exact HJ.out j x' y' (by omega) hx' hy'
        have hne : x ≠ y → r = false := fun h => HF.out (ne_at hx hy h)
        have hq : ∃ q, decide (x = y) = q ∧ (q = true → x = y) ∧ (q = false → x ≠ y) := ⟨_, rfl, of_decide_eq_true, of_decide_eq_false⟩
        obtain ⟨q, hq1, hq2, hq3⟩ := hq
        have HQ := Lib.hid (⟨hq2, hq3⟩ : _ ∧ _)
        have NX := Lib.hid next
        have HNE := Lib.hid hne
        clear next hne hx hy hrow hrow2 hq2 hq3
        cases q
        · obtain rfl := HNE.out (HQ.out.2 rfl)
          go_wp2_with fail
          refine wp_region_ext (by kernel_rfl) (by kernel_rfl) fun hx => ?_
          repeat (go_big_quiet_step (fail))
          refine wpQuiet_nil ?_
          intro w5 b5
          go_wp2
          go_ret
          exact ⟨rfl, bchain HB.out b5⟩
        · go_wp2_with fail
          refine wp_region_ext (by kernel_rfl) (by kernel_rfl) fun hx => ?_
          repeat (go_big_quiet_step (fail))
          refine wpQuiet_nil ?_
          intro w5 b5
          have HB5 := Lib.hid (bchain HB.out b5)
          clear b5
          go_wp2
          go_roundw
          case rel => exact ⟨n + 1, by omega, by go_num, NX.out (HQ.out.1 (by simp)), HB5⟩
          case measure => simp [intOf]; omega
      obtain rfl : n = xs.length := by omega
      obtain rfl := HT.out (eq_all HLE.out HJ.out)
      go_wp2
      go_ret
      exact ⟨rfl, HB.out⟩
  · obtain rfl := HF.out (fun e => hl (by rw [e]))
    have hd : ¬ (xs.length : Int) = (ys.length : Int) := by omega
    have hd2 : ((xs.length : Int) == (ys.length : Int)) = false := by simp; omega
    have hd3 : ((xs.length : Int) != (ys.length : Int)) = true := by simp; omega
    go_enter Tryd.func37, Tryd.ntmps37
    go_wp2
    go_ret
    exact ⟨rfl, Below.refl _ _⟩

theorem same_iff (L M : Lay) : sameL L M = true ↔ L.times = M.times ∧ L.secs = M.secs ∧ L.sigs = M.sigs ∧ L.flanks = M.flanks ∧ L.exits = M.exits := by
  unfold sameL
  simp only [Bool.and_eq_true, decide_eq_true_eq]
  constructor
  · rintro ⟨⟨⟨⟨h0, h1⟩, h2⟩, h3⟩, h4⟩; exact ⟨h0, h1, h2, h3, h4⟩
  · rintro ⟨h0, h1, h2, h3, h4⟩; exact ⟨⟨⟨⟨h0, h1⟩, h2⟩, h3⟩, h4⟩

set_option maxRecDepth 100000 in
set_option maxHeartbeats 16000000 in
theorem rSame_any (L M : Lay) (p q : Where) (w : World) (hL : LayAt w p L) (hM : LayAt w q M) :
    Calls Tryd.prog 14 #[L.val p, M.val q] w fun e w' => e = .returned (.bool (sameL L M)) ∧ Below w.heap.size w w' := by
  have hi := same_iff L M
  generalize sameL L M = r at hi ⊢
  have hf : ¬ (L.times = M.times ∧ L.secs = M.secs ∧ L.sigs = M.sigs ∧ L.flanks = M.flanks ∧ L.exits = M.exits) → r = false := fun h => by
    cases r
    · rfl
    · exact absurd (hi.1 rfl) h
  have ht := hi.2
  have m0 : L.secs.length ≤ 9223372036854775807 := Nat.le_trans hL.l0.1 hL.l0.2
  have m1 : L.sigs.length ≤ 9223372036854775807 := Nat.le_trans hL.l1.1 hL.l1.2
  have m2 : L.exits.length ≤ 9223372036854775807 := Nat.le_trans hL.l2.1 hL.l2.2
  have m3 : L.flanks.length ≤ 9223372036854775807 := Nat.le_trans hL.l3.1 hL.l3.2
  have hX := (BoxL.make (W := w) (L := L) (p := p) (n := w.heap.size) 29 rfl).below (bself (o := .cells (M.cells q).toArray 29))
  have hZ := BoxL.make (W := w.alloc (.cells (L.cells p).toArray 29)) (L := M) (p := q) (n := w.heap.size + 1) 29 (by simp)
  have HF := Lib.hid hf
  have HT := Lib.hid ht
  have HL := Lib.hid hL
  have HM := Lib.hid hM
  clear hi hf ht hL hM
  obtain ⟨a0, a1, a2, a3, p0, p1, p2, p3⟩ := p
  obtain ⟨b0, b1, b2, b3, q0, q1, q2, q3⟩ := q
  unfold Lay.val at *
  unfold Lay.cells at hX hZ
  dsimp only at hX hZ ⊢
  have hlen : (∃ h : L.secs.length = M.secs.length ∧ L.sigs.length = M.sigs.length ∧ L.exits.length = M.exits.length ∧ L.flanks.length = M.flanks.length, L.times = M.times) ∨
      (L.secs.length ≠ M.secs.length) ∨ (L.secs.length = M.secs.length ∧ L.sigs.length ≠ M.sigs.length) ∨ (L.secs.length = M.secs.length ∧ L.sigs.length = M.sigs.length ∧ L.exits.length ≠ M.exits.length) ∨
      (L.secs.length = M.secs.length ∧ L.sigs.length = M.sigs.length ∧ L.exits.length = M.exits.length ∧ L.flanks.length ≠ M.flanks.length) ∨ (L.secs.length = M.secs.length ∧ L.sigs.length = M.sigs.length ∧ L.exits.length = M.exits.length ∧ L.flanks.length = M.flanks.length ∧ L.times ≠ M.times) := by
    by_cases g0 : L.secs.length = M.secs.length
    · by_cases g1 : L.sigs.length = M.sigs.length
      · by_cases g2 : L.exits.length = M.exits.length
        · by_cases g3 : L.flanks.length = M.flanks.length
          · by_cases g4 : L.times = M.times
            · exact .inl ⟨⟨g0, g1, g2, g3⟩, g4⟩
            · exact .inr (.inr (.inr (.inr (.inr ⟨g0, g1, g2, g3, g4⟩))))
          · exact .inr (.inr (.inr (.inr (.inl ⟨g0, g1, g2, g3⟩))))
        · exact .inr (.inr (.inr (.inl ⟨g0, g1, g2⟩)))
      · exact .inr (.inr (.inl ⟨g0, g1⟩))
    · exact .inr (.inl g0)
  rcases hlen with ⟨⟨g0, g1, g2, g3⟩, g4⟩ | g0 | ⟨g0, g1⟩ | ⟨g0, g1, g2⟩ | ⟨g0, g1, g2, g3⟩ | ⟨g0, g1, g2, g3, g4⟩
  rotate_left
  · obtain rfl := HF.out (fun e => g0 (by rw [e.2.1]))
    have dq0 : ((L.secs.length : Int) == (M.secs.length : Int)) = false := by simp; omega
    have dn0 : ((L.secs.length : Int) != (M.secs.length : Int)) = true := by simp; omega
    have dm0 : ¬ (L.secs.length : Int) = (M.secs.length : Int) := by omega
    clear g0 HF HT HL HM hX hZ
    go_enter Tryd.func14, Tryd.ntmps14
    go_wp2
    go_ret
    exact ⟨rfl, bchain bself bself⟩
  · obtain rfl := HF.out (fun e => g1 (by rw [e.2.2.1]))
    have dq0 : ((L.secs.length : Int) == (M.secs.length : Int)) = true := by simp; omega
    have dn0 : ((L.secs.length : Int) != (M.secs.length : Int)) = false := by simp; omega
    have dq1 : ((L.sigs.length : Int) == (M.sigs.length : Int)) = false := by simp; omega
    have dn1 : ((L.sigs.length : Int) != (M.sigs.length : Int)) = true := by simp; omega
    have dm1 : ¬ (L.sigs.length : Int) = (M.sigs.length : Int) := by omega
    clear g0 g1 HF HT HL HM hX hZ
    go_enter Tryd.func14, Tryd.ntmps14
    go_wp2
    go_ret
    exact ⟨rfl, bchain bself bself⟩
  · obtain rfl := HF.out (fun e => g2 (by rw [e.2.2.2.2]))
    have dq0 : ((L.secs.length : Int) == (M.secs.length : Int)) = true := by simp; omega
    have dn0 : ((L.secs.length : Int) != (M.secs.length : Int)) = false := by simp; omega
    have dq1 : ((L.sigs.length : Int) == (M.sigs.length : Int)) = true := by simp; omega
    have dn1 : ((L.sigs.length : Int) != (M.sigs.length : Int)) = false := by simp; omega
    have dq2 : ((L.exits.length : Int) == (M.exits.length : Int)) = false := by simp; omega
    have dn2 : ((L.exits.length : Int) != (M.exits.length : Int)) = true := by simp; omega
    have dm2 : ¬ (L.exits.length : Int) = (M.exits.length : Int) := by omega
    clear g0 g1 g2 HF HT HL HM hX hZ
    go_enter Tryd.func14, Tryd.ntmps14
    go_wp2
    go_ret
    exact ⟨rfl, bchain bself bself⟩
  · obtain rfl := HF.out (fun e => g3 (by rw [e.2.2.2.1]))
    have dq0 : ((L.secs.length : Int) == (M.secs.length : Int)) = true := by simp; omega
    have dn0 : ((L.secs.length : Int) != (M.secs.length : Int)) = false := by simp; omega
    have dq1 : ((L.sigs.length : Int) == (M.sigs.length : Int)) = true := by simp; omega
    have dn1 : ((L.sigs.length : Int) != (M.sigs.length : Int)) = false := by simp; omega
    have dq2 : ((L.exits.length : Int) == (M.exits.length : Int)) = true := by simp; omega
    have dn2 : ((L.exits.length : Int) != (M.exits.length : Int)) = false := by simp; omega
    have dq3 : ((L.flanks.length : Int) == (M.flanks.length : Int)) = false := by simp; omega
    have dn3 : ((L.flanks.length : Int) != (M.flanks.length : Int)) = true := by simp; omega
    have dm3 : ¬ (L.flanks.length : Int) = (M.flanks.length : Int) := by omega
    clear g0 g1 g2 g3 HF HT HL HM hX hZ
    go_enter Tryd.func14, Tryd.ntmps14
    go_wp2
    go_ret
    exact ⟨rfl, bchain bself bself⟩
  · obtain rfl := HF.out (fun e => g4 e.1)
    have dq0 : ((L.secs.length : Int) == (M.secs.length : Int)) = true := by simp; omega
    have dn0 : ((L.secs.length : Int) != (M.secs.length : Int)) = false := by simp; omega
    have dq1 : ((L.sigs.length : Int) == (M.sigs.length : Int)) = true := by simp; omega
    have dn1 : ((L.sigs.length : Int) != (M.sigs.length : Int)) = false := by simp; omega
    have dq2 : ((L.exits.length : Int) == (M.exits.length : Int)) = true := by simp; omega
    have dn2 : ((L.exits.length : Int) != (M.exits.length : Int)) = false := by simp; omega
    have dq3 : ((L.flanks.length : Int) == (M.flanks.length : Int)) = true := by simp; omega
    have dn3 : ((L.flanks.length : Int) != (M.flanks.length : Int)) = false := by simp; omega
    have dt : decide (L.times = M.times) = false := decide_eq_false g4
    clear g0 g1 g2 g3 g4 HF HT HL HM hX hZ
    go_enter Tryd.func14, Tryd.ntmps14
    go_wp2
    go_ret
    exact ⟨rfl, bchain bself bself⟩
  have HLE := Lib.hid (⟨g0, g1, g2, g3⟩ : _ ∧ _ ∧ _ ∧ _)
  have HTM := Lib.hid g4
  have dq0 : ((L.secs.length : Int) == (M.secs.length : Int)) = true := by simp; omega
  have dn0 : ((L.secs.length : Int) != (M.secs.length : Int)) = false := by simp; omega
  have dq1 : ((L.sigs.length : Int) == (M.sigs.length : Int)) = true := by simp; omega
  have dn1 : ((L.sigs.length : Int) != (M.sigs.length : Int)) = false := by simp; omega
  have dq2 : ((L.exits.length : Int) == (M.exits.length : Int)) = true := by simp; omega
  have dn2 : ((L.exits.length : Int) != (M.exits.length : Int)) = false := by simp; omega
  have dq3 : ((L.flanks.length : Int) == (M.flanks.length : Int)) = true := by simp; omega
  have dn3 : ((L.flanks.length : Int) != (M.flanks.length : Int)) = false := by simp; omega
  have dt : decide (L.times = M.times) = true := decide_eq_true g4
  have ln0 : M.secs.length ≤ L.secs.length := by omega
  have lm0 : L.secs.length ≤ M.secs.length := by omega
  have ln1 : M.sigs.length ≤ L.sigs.length := by omega
  have lm1 : L.sigs.length ≤ M.sigs.length := by omega
  have ln2 : M.exits.length ≤ L.exits.length := by omega
  have lm2 : L.exits.length ≤ M.exits.length := by omega
  have ln3 : M.flanks.length ≤ L.flanks.length := by omega
  have lm3 : L.flanks.length ≤ M.flanks.length := by omega
  clear g0 g1 g2 g3 g4
  go_enter Tryd.func14, Tryd.ntmps14
  go_wp2_with fail
  clear dq0 dn0 dq1 dn1 dq2 dn2 dq3 dn3 dt
  obtain ⟨Y, hY⟩ : ∃ Y, Y = (w.alloc (.cells #[.slice a0 L.secs.length p0, .slice a1 L.sigs.length p1, .slice a2 L.exits.length p2, .slice a3 L.flanks.length p3, .int .i64 L.t0, .int .i64 L.t1, .int .i64 L.t2, .int .i64 L.t3, .int .i64 L.t4, .int .i64 L.t5, .int .i64 L.t6] 29)).alloc (.cells #[.slice b0 M.secs.length q0, .slice b1 M.sigs.length q1, .slice b2 M.exits.length q2, .slice b3 M.flanks.length q3, .int .i64 M.t0, .int .i64 M.t1, .int .i64 M.t2, .int .i64 M.t3, .int .i64 M.t4, .int .i64 M.t5, .int .i64 M.t6] 29) := ⟨_, rfl⟩
  have HB : Hid (Below w.heap.size w Y) := Lib.hid (by rw [hY]; exact bchain bself bself)
  have HX : Hid (BoxL Y w.heap.size L ⟨a0, a1, a2, a3, p0, p1, p2, p3⟩) := Lib.hid (by rw [hY]; exact hX)
  have HZ : Hid (BoxL Y (w.heap.size + 1) M ⟨b0, b1, b2, b3, q0, q1, q2, q3⟩) := Lib.hid (by rw [hY]; exact hZ)
  rw [← hY]
  clear hY hX hZ
  go_loopw [5] (fun c wr => ∃ n : Nat, n ≤ L.secs.length ∧ c = .int .i64 n ∧ Hid (∀ (j : Nat) (x y : Sec), j < n → L.secs[j]? = some x → M.secs[j]? = some y → x = y) ∧ Hid (Below Y.heap.size Y wr)) (fun c _ => L.secs.length - (intOf c).toNat)
  case atStart => exact ⟨0, Nat.zero_le _, rfl, Lib.hid (fun j x y hj => absurd hj (Nat.not_lt_zero _)), Lib.hid (Below.refl _ _)⟩
  case round =>
    obtain ⟨n0, hn, rfl, HJ, HBr⟩ := hrel
    obtain ⟨V, rfl⟩ : ∃ V : World, V = wr := ⟨_, rfl⟩
    have xL := HX.out.below HBr.out
    have xM := HZ.out.below HBr.out
    have lw := xL.1
    have lz := xM.1
    have rL := xL.2 0 _ rfl
    have rM := xM.2 0 _ rfl
    dsimp only at rL rM
    have BV := Lib.hid (bchain HB.out HBr.out)
    clear xL xM
    by_cases hlt : n0 < L.secs.length
    · have hlt2 : n0 < M.secs.length := by omega
      obtain ⟨bx, bxo, hAbx, hrowbx⟩ := HL.out.secs.get (j := n0) (by omega)
      dsimp only at hAbx
      subst hAbx
      obtain ⟨x, hx⟩ : ∃ x, L.secs[n0]? = some x := ⟨L.secs[n0]'(by omega), List.getElem?_eq_getElem (by omega)⟩
      have c0 : V.cell? ⟨bx, bxo + n0 * 11, none⟩ = some (.int .u8 x.k) := (hrowbx.below BV.out).2 n0 x hx 0 _ rfl
      have c1 : V.cell? ⟨bx, bxo + n0 * 11 + 1, none⟩ = some (.int .i64 x.s0) := (hrowbx.below BV.out).2 n0 x hx 1 _ rfl
      have c2 : V.cell? ⟨bx, bxo + n0 * 11 + 2, none⟩ = some (.int .i64 x.p0) := (hrowbx.below BV.out).2 n0 x hx 2 _ rfl
      have c3 : V.cell? ⟨bx, bxo + n0 * 11 + 3, none⟩ = some (.int .i64 x.s1) := (hrowbx.below BV.out).2 n0 x hx 3 _ rfl
      have c4 : V.cell? ⟨bx, bxo + n0 * 11 + 4, none⟩ = some (.int .i64 x.p1) := (hrowbx.below BV.out).2 n0 x hx 4 _ rfl
      have c5 : V.cell? ⟨bx, bxo + n0 * 11 + 5, none⟩ = some (.int .i64 x.s2) := (hrowbx.below BV.out).2 n0 x hx 5 _ rfl
      have c6 : V.cell? ⟨bx, bxo + n0 * 11 + 6, none⟩ = some (.int .i64 x.p2) := (hrowbx.below BV.out).2 n0 x hx 6 _ rfl
      have c7 : V.cell? ⟨bx, bxo + n0 * 11 + 7, none⟩ = some (.int .i64 x.s3) := (hrowbx.below BV.out).2 n0 x hx 7 _ rfl
      have c8 : V.cell? ⟨bx, bxo + n0 * 11 + 8, none⟩ = some (.int .i64 x.p3) := (hrowbx.below BV.out).2 n0 x hx 8 _ rfl
      have c9 : V.cell? ⟨bx, bxo + n0 * 11 + 9, none⟩ = some (.int .i64 x.c0) := (hrowbx.below BV.out).2 n0 x hx 9 _ rfl
      have c10 : V.cell? ⟨bx, bxo + n0 * 11 + 10, none⟩ = some (.int .i64 x.c1) := (hrowbx.below BV.out).2 n0 x hx 10 _ rfl
      have lbx : bx < V.heap.size := (hrowbx.below BV.out).1
      obtain ⟨bz, bzo, hAbz, hrowbz⟩ := HM.out.secs.get (j := n0) (by omega)
      dsimp only at hAbz
      subst hAbz
      obtain ⟨y, hy⟩ : ∃ y, M.secs[n0]? = some y := ⟨M.secs[n0]'(by omega), List.getElem?_eq_getElem (by omega)⟩
      have d0 : V.cell? ⟨bz, bzo + n0 * 11, none⟩ = some (.int .u8 y.k) := (hrowbz.below BV.out).2 n0 y hy 0 _ rfl
      have d1 : V.cell? ⟨bz, bzo + n0 * 11 + 1, none⟩ = some (.int .i64 y.s0) := (hrowbz.below BV.out).2 n0 y hy 1 _ rfl
      have d2 : V.cell? ⟨bz, bzo + n0 * 11 + 2, none⟩ = some (.int .i64 y.p0) := (hrowbz.below BV.out).2 n0 y hy 2 _ rfl
      have d3 : V.cell? ⟨bz, bzo + n0 * 11 + 3, none⟩ = some (.int .i64 y.s1) := (hrowbz.below BV.out).2 n0 y hy 3 _ rfl
      have d4 : V.cell? ⟨bz, bzo + n0 * 11 + 4, none⟩ = some (.int .i64 y.p1) := (hrowbz.below BV.out).2 n0 y hy 4 _ rfl
      have d5 : V.cell? ⟨bz, bzo + n0 * 11 + 5, none⟩ = some (.int .i64 y.s2) := (hrowbz.below BV.out).2 n0 y hy 5 _ rfl
      have d6 : V.cell? ⟨bz, bzo + n0 * 11 + 6, none⟩ = some (.int .i64 y.p2) := (hrowbz.below BV.out).2 n0 y hy 6 _ rfl
      have d7 : V.cell? ⟨bz, bzo + n0 * 11 + 7, none⟩ = some (.int .i64 y.s3) := (hrowbz.below BV.out).2 n0 y hy 7 _ rfl
      have d8 : V.cell? ⟨bz, bzo + n0 * 11 + 8, none⟩ = some (.int .i64 y.p3) := (hrowbz.below BV.out).2 n0 y hy 8 _ rfl
      have d9 : V.cell? ⟨bz, bzo + n0 * 11 + 9, none⟩ = some (.int .i64 y.c0) := (hrowbz.below BV.out).2 n0 y hy 9 _ rfl
      have d10 : V.cell? ⟨bz, bzo + n0 * 11 + 10, none⟩ = some (.int .i64 y.c1) := (hrowbz.below BV.out).2 n0 y hy 10 _ rfl
      have lbz : bz < V.heap.size := (hrowbz.below BV.out).1
      have hq : ∃ q, decide (x = y) = q ∧ (q = true → x = y) ∧ (q = false → x ≠ y) := ⟨_, rfl, of_decide_eq_true, of_decide_eq_false⟩
      obtain ⟨q, hq1, hq2, hq3⟩ := hq
      have HQ := Lib.hid (⟨hq2, hq3⟩ : _ ∧ _)
      have next : x = y → Hid (∀ (j : Nat) (x y : Sec), j < n0 + 1 → L.secs[j]? = some x → M.secs[j]? = some y → x = y) := fun h => Lib.hid fun j x' y' hj hx' hy' => by
        by_cases e : j = n0
        · subst e
          rw [hx] at hx'
          rw [hy] at hy'
          cases hx'
          cases hy'
          exact h
        · exact HJ.out j x' y' (by omega) hx' hy'
      have hne : x ≠ y → r = false := fun h => HF.out (fun e => ne_at hx hy h e.2.1)
      have NX := Lib.hid next
      have HNE := Lib.hid hne
      clear next hne hx hy hrowbx hrowbz hq2 hq3
      cases q
      · obtain rfl := HNE.out (HQ.out.2 rfl)
        go_wp2_with fail
        refine wp_region_ext (by kernel_rfl) (by kernel_rfl) fun hx => ?_
        repeat (go_big_quiet_step (fail))
        refine wpQuiet_nil ?_
        intro w5 b5
        have HB5 := Lib.hid (bchain HBr.out b5)
        clear b5
        go_wp2
        go_ret
        exact ⟨rfl, bchain HB.out HB5.out⟩
      · go_wp2_with fail
        refine wp_region_ext (by kernel_rfl) (by kernel_rfl) fun hx => ?_
        repeat (go_big_quiet_step (fail))
        refine wpQuiet_nil ?_
        intro w5 b5
        have HB5 := Lib.hid (bchain HBr.out b5)
        clear b5
        go_wp2
        go_roundw
        case rel => exact ⟨n0 + 1, by omega, by go_num, NX.out (HQ.out.1 (by simp)), HB5⟩
        case measure => simp [intOf]; omega
    obtain rfl : n0 = L.secs.length := by omega
    have HE0 : Hid (L.secs = M.secs) := Lib.hid (eq_all HLE.out.1 HJ.out)
    go_wp2_with fail
    clear rL rM lw lz hlt hn BV HJ
    obtain ⟨V0, rfl⟩ : ∃ V0 : World, V0 = V := ⟨_, rfl⟩
    have HBs0 := HBr
    clear HBr
    go_loopw [6] (fun c wr => ∃ n : Nat, n ≤ L.sigs.length ∧ c = .int .i64 n ∧ Hid (∀ (j : Nat) (x y : Prt), j < n → L.sigs[j]? = some x → M.sigs[j]? = some y → x = y) ∧ Hid (Below Y.heap.size Y wr)) (fun c _ => L.sigs.length - (intOf c).toNat)
    case atStart => exact ⟨0, Nat.zero_le _, rfl, Lib.hid (fun j x y hj => absurd hj (Nat.not_lt_zero _)), HBs0⟩
    case round =>
      obtain ⟨n1, hn, rfl, HJ, HBr⟩ := hrel
      obtain ⟨V, rfl⟩ : ∃ V : World, V = wr := ⟨_, rfl⟩
      have xL := HX.out.below HBr.out
      have xM := HZ.out.below HBr.out
      have lw := xL.1
      have lz := xM.1
      have rL := xL.2 1 _ rfl
      have rM := xM.2 1 _ rfl
      dsimp only at rL rM
      have BV := Lib.hid (bchain HB.out HBr.out)
      clear xL xM
      by_cases hlt : n1 < L.sigs.length
      · have hlt2 : n1 < M.sigs.length := by omega
        obtain ⟨bx, bxo, hAbx, hrowbx⟩ := HL.out.sigs.get (j := n1) (by omega)
        dsimp only at hAbx
        subst hAbx
        obtain ⟨x, hx⟩ : ∃ x, L.sigs[n1]? = some x := ⟨L.sigs[n1]'(by omega), List.getElem?_eq_getElem (by omega)⟩
        have c0 : V.cell? ⟨bx, bxo + n1 * 2, none⟩ = some (.int .i64 x.s) := (hrowbx.below BV.out).2 n1 x hx 0 _ rfl
        have c1 : V.cell? ⟨bx, bxo + n1 * 2 + 1, none⟩ = some (.int .i64 x.p) := (hrowbx.below BV.out).2 n1 x hx 1 _ rfl
        have lbx : bx < V.heap.size := (hrowbx.below BV.out).1
        obtain ⟨bz, bzo, hAbz, hrowbz⟩ := HM.out.sigs.get (j := n1) (by omega)
        dsimp only at hAbz
        subst hAbz
        obtain ⟨y, hy⟩ : ∃ y, M.sigs[n1]? = some y := ⟨M.sigs[n1]'(by omega), List.getElem?_eq_getElem (by omega)⟩
        have d0 : V.cell? ⟨bz, bzo + n1 * 2, none⟩ = some (.int .i64 y.s) := (hrowbz.below BV.out).2 n1 y hy 0 _ rfl
        have d1 : V.cell? ⟨bz, bzo + n1 * 2 + 1, none⟩ = some (.int .i64 y.p) := (hrowbz.below BV.out).2 n1 y hy 1 _ rfl
        have lbz : bz < V.heap.size := (hrowbz.below BV.out).1
        have hq : ∃ q, decide (x = y) = q ∧ (q = true → x = y) ∧ (q = false → x ≠ y) := ⟨_, rfl, of_decide_eq_true, of_decide_eq_false⟩
        obtain ⟨q, hq1, hq2, hq3⟩ := hq
        have HQ := Lib.hid (⟨hq2, hq3⟩ : _ ∧ _)
        have next : x = y → Hid (∀ (j : Nat) (x y : Prt), j < n1 + 1 → L.sigs[j]? = some x → M.sigs[j]? = some y → x = y) := fun h => Lib.hid fun j x' y' hj hx' hy' => by
          by_cases e : j = n1
          · subst e
            rw [hx] at hx'
            rw [hy] at hy'
            cases hx'
            cases hy'
            exact h
          · exact HJ.out j x' y' (by omega) hx' hy'
        have hne : x ≠ y → r = false := fun h => HF.out (fun e => ne_at hx hy h e.2.2.1)
        have NX := Lib.hid next
        have HNE := Lib.hid hne
        clear next hne hx hy hrowbx hrowbz hq2 hq3
        cases q
        · obtain rfl := HNE.out (HQ.out.2 rfl)
          go_wp2_with fail
          refine wp_region_ext (by kernel_rfl) (by kernel_rfl) fun hx => ?_
          repeat (go_big_quiet_step (fail))
          refine wpQuiet_nil ?_
          intro w5 b5
          have HB5 := Lib.hid (bchain HBr.out b5)
          clear b5
          go_wp2
          go_ret
          exact ⟨rfl, bchain HB.out HB5.out⟩
        · go_wp2_with fail
          refine wp_region_ext (by kernel_rfl) (by kernel_rfl) fun hx => ?_
          repeat (go_big_quiet_step (fail))
          refine wpQuiet_nil ?_
          intro w5 b5
          have HB5 := Lib.hid (bchain HBr.out b5)
          clear b5
          go_wp2
          go_roundw
          case rel => exact ⟨n1 + 1, by omega, by go_num, NX.out (HQ.out.1 (by simp)), HB5⟩
          case measure => simp [intOf]; omega
      obtain rfl : n1 = L.sigs.length := by omega
      have HE1 : Hid (L.sigs = M.sigs) := Lib.hid (eq_all HLE.out.2.1 HJ.out)
      go_wp2_with fail
      clear rL rM lw lz hlt hn BV HJ
      obtain ⟨V1, rfl⟩ : ∃ V1 : World, V1 = V := ⟨_, rfl⟩
      have HBs1 := HBr
      clear HBr
      go_loopw [7] (fun c wr => ∃ n : Nat, n ≤ L.exits.length ∧ c = .int .i64 n ∧ Hid (∀ (j : Nat) (x y : Ext'), j < n → L.exits[j]? = some x → M.exits[j]? = some y → x = y) ∧ Hid (Below Y.heap.size Y wr)) (fun c _ => L.exits.length - (intOf c).toNat)
      case atStart => exact ⟨0, Nat.zero_le _, rfl, Lib.hid (fun j x y hj => absurd hj (Nat.not_lt_zero _)), HBs1⟩
      case round =>
        obtain ⟨n2, hn, rfl, HJ, HBr⟩ := hrel
        obtain ⟨V, rfl⟩ : ∃ V : World, V = wr := ⟨_, rfl⟩
        have xL := HX.out.below HBr.out
        have xM := HZ.out.below HBr.out
        have lw := xL.1
        have lz := xM.1
        have rL := xL.2 2 _ rfl
        have rM := xM.2 2 _ rfl
        dsimp only at rL rM
        have BV := Lib.hid (bchain HB.out HBr.out)
        clear xL xM
        by_cases hlt : n2 < L.exits.length
        · have hlt2 : n2 < M.exits.length := by omega
          obtain ⟨esx, hesx, hAtx, hSlx⟩ := HL.out.exits
          have hlenx : esx.length = L.exits.length := by rw [← hesx, List.length_map]
          obtain ⟨bx, bxo, hAbx, hrowbx⟩ := hAtx.get (j := n2) (by omega)
          dsimp only at hAbx
          subst hAbx
          obtain ⟨yx, hyx⟩ : ∃ y, esx[n2]? = some y := ⟨esx[n2]'(by omega), List.getElem?_eq_getElem (by omega)⟩
          obtain ⟨x, vx⟩ := yx
          have hx : L.exits[n2]? = some x := by rw [← hesx, List.getElem?_map, hyx]; rfl
          have c0 : V.cell? ⟨bx, bxo + n2 * 3, none⟩ = some (.int .i64 x.s) := (hrowbx.below BV.out).2 n2 _ hyx 0 _ rfl
          have c1 : V.cell? ⟨bx, bxo + n2 * 3 + 1, none⟩ = some (.int .i64 x.p) := (hrowbx.below BV.out).2 n2 _ hyx 1 _ rfl
          have c2 : V.cell? ⟨bx, bxo + n2 * 3 + 2, none⟩ = some vx := (hrowbx.below BV.out).2 n2 _ hyx 2 _ rfl
          have hslx : Sl w 3 Stp.enc vx x.over := hSlx _ (List.mem_of_getElem? hyx)
          have lbx : bx < V.heap.size := (hrowbx.below BV.out).1
          obtain ⟨esy, hesy, hAty, hSly⟩ := HM.out.exits
          have hleny : esy.length = M.exits.length := by rw [← hesy, List.length_map]
          obtain ⟨bz, bzo, hAbz, hrowbz⟩ := hAty.get (j := n2) (by omega)
          dsimp only at hAbz
          subst hAbz
          obtain ⟨yy, hyy⟩ : ∃ y, esy[n2]? = some y := ⟨esy[n2]'(by omega), List.getElem?_eq_getElem (by omega)⟩
          obtain ⟨y, vy⟩ := yy
          have hy : M.exits[n2]? = some y := by rw [← hesy, List.getElem?_map, hyy]; rfl
          have d0 : V.cell? ⟨bz, bzo + n2 * 3, none⟩ = some (.int .i64 y.s) := (hrowbz.below BV.out).2 n2 _ hyy 0 _ rfl
          have d1 : V.cell? ⟨bz, bzo + n2 * 3 + 1, none⟩ = some (.int .i64 y.p) := (hrowbz.below BV.out).2 n2 _ hyy 1 _ rfl
          have d2 : V.cell? ⟨bz, bzo + n2 * 3 + 2, none⟩ = some vy := (hrowbz.below BV.out).2 n2 _ hyy 2 _ rfl
          have hsly : Sl w 3 Stp.enc vy y.over := hSly _ (List.mem_of_getElem? hyy)
          have lbz : bz < V.heap.size := (hrowbz.below BV.out).1
          have h5 := fun w1 (b : Below w.heap.size w w1) => (show ∃ A A' cap cap', vx = .slice A x.over.length cap ∧ vy = .slice A' y.over.length cap' ∧ (At w 3 Stp.enc A x.over ∧ At w 3 Stp.enc A' y.over ∧ x.over.length ≤ 9223372036854775807) from by
            obtain ⟨A, cap, e, h1, h2, h3⟩ := hslx
            obtain ⟨A', cap', e', _, _, h3'⟩ := hsly
            exact ⟨A, A', cap, cap', e, e', h3, h3', Nat.le_trans h1 h2⟩)
          obtain ⟨A, A', cap, cap', rfl, rfl, hA1, hA2, hm5⟩ := h5 w (Below.refl _ _)
          clear h5 hslx hsly
          have h6 := fun w1 (b : Below w.heap.size w w1) => rSteps_any A A' cap cap' x.over y.over w1 (hA1.below b) (hA2.below b) hm5
          have hxy : x = y ↔ (x.s = y.s ∧ x.p = y.p) ∧ x.over = y.over := by
            obtain ⟨x0, x1, x2⟩ := x
            obtain ⟨y0, y1, y2⟩ := y
            simp only [Ext'.mk.injEq]
            constructor
            · rintro ⟨h1, h2, h3⟩; exact ⟨⟨h1, h2⟩, h3⟩
            · rintro ⟨⟨h1, h2⟩, h3⟩; exact ⟨h1, h2, h3⟩
          have hq : ∃ q, decide (x.s = y.s ∧ x.p = y.p) = q ∧ (q = true → x.s = y.s ∧ x.p = y.p) ∧ (q = false → ¬ (x.s = y.s ∧ x.p = y.p)) := ⟨_, rfl, of_decide_eq_true, of_decide_eq_false⟩
          obtain ⟨q, hq1, hq2, hq3⟩ := hq
          have ho : ∃ o, o = decide (x.over = y.over) ∧ (o = true → x.over = y.over) ∧ (o = false → ¬ x.over = y.over) := ⟨_, rfl, of_decide_eq_true, of_decide_eq_false⟩
          obtain ⟨o, ho1, ho2, ho3⟩ := ho
          rw [← ho1] at h6
          have H6 := Lib.hid h6
          have HQ := Lib.hid (⟨hxy, hq2, hq3, ho2, ho3⟩ : _ ∧ _ ∧ _ ∧ _ ∧ _)
          have next : x = y → Hid (∀ (j : Nat) (x y : Ext'), j < n2 + 1 → L.exits[j]? = some x → M.exits[j]? = some y → x = y) := fun h => Lib.hid fun j x' y' hj hx' hy' => by
            by_cases e : j = n2
            · subst e
              rw [hx] at hx'
              rw [hy] at hy'
              cases hx'
              cases hy'
              exact h
            · exact HJ.out j x' y' (by omega) hx' hy'
          have hne : x ≠ y → r = false := fun h => HF.out (fun e => ne_at hx hy h e.2.2.2.2)
          have NX := Lib.hid next
          have HNE := Lib.hid hne
          clear next hne hx hy hrowbx hrowbz hq2 hq3 hxy ho1 ho2 ho3 hA1 hA2 h6 hyx hyy hSlx hSly hAtx hAty hesx hesy hlenx hleny
          cases q
          · obtain rfl := HNE.out (fun h => HQ.out.2.2.1 rfl (HQ.out.1.1 h).1)
            go_wp2_with fail
            refine wp_region_ext (by kernel_rfl) (by kernel_rfl) fun hx => ?_
            repeat (go_big_quiet_step (fail))
            refine wpQuiet_nil ?_
            intro w5 b5
            have HB5 := Lib.hid (bchain HBr.out b5)
            clear b5
            go_wp2
            go_ret
            exact ⟨rfl, bchain HB.out HB5.out⟩
          · cases o
            · obtain rfl := HNE.out (fun h => HQ.out.2.2.2.2 rfl (HQ.out.1.1 h).2)
              go_wp2_with fail
              refine wp_region_ext (by kernel_rfl) (by kernel_rfl) fun hx => ?_
              repeat (go_big_quiet_step ((go_at_call 37; exact Calls.ext (H6.out _ (bchain BV.out (Ext.below _))))))
              refine wpQuiet_nil ?_
              intro w5 b5
              have HB5 := Lib.hid (bchain HBr.out b5)
              clear b5
              go_wp2
              go_ret
              exact ⟨rfl, bchain HB.out HB5.out⟩
            · go_wp2_with fail
              refine wp_region_ext (by kernel_rfl) (by kernel_rfl) fun hx => ?_
              repeat (go_big_quiet_step ((go_at_call 37; exact Calls.ext (H6.out _ (bchain BV.out (Ext.below _))))))
              refine wpQuiet_nil ?_
              intro w5 b5
              have HB5 := Lib.hid (bchain HBr.out b5)
              clear b5
              go_wp2
              go_roundw
              case rel => exact ⟨n2 + 1, by omega, by go_num, NX.out (HQ.out.1.2 ⟨HQ.out.2.1 (by simp), HQ.out.2.2.2.1 (by simp)⟩), HB5⟩
              case measure => simp [intOf]; omega
        obtain rfl : n2 = L.exits.length := by omega
        have HE2 : Hid (L.exits = M.exits) := Lib.hid (eq_all HLE.out.2.2.1 HJ.out)
        go_wp2_with fail
        clear rL rM lw lz hlt hn BV HJ
        obtain ⟨V2, rfl⟩ : ∃ V2 : World, V2 = V := ⟨_, rfl⟩
        have HBs2 := HBr
        clear HBr
        go_loopw [8] (fun c wr => ∃ n : Nat, n ≤ L.flanks.length ∧ c = .int .i64 n ∧ Hid (∀ (j : Nat) (x y : Flk), j < n → L.flanks[j]? = some x → M.flanks[j]? = some y → x = y) ∧ Hid (Below Y.heap.size Y wr)) (fun c _ => L.flanks.length - (intOf c).toNat)
        case atStart => exact ⟨0, Nat.zero_le _, rfl, Lib.hid (fun j x y hj => absurd hj (Nat.not_lt_zero _)), HBs2⟩
        case round =>
          obtain ⟨n3, hn, rfl, HJ, HBr⟩ := hrel
          obtain ⟨V, rfl⟩ : ∃ V : World, V = wr := ⟨_, rfl⟩
          have xL := HX.out.below HBr.out
          have xM := HZ.out.below HBr.out
          have lw := xL.1
          have lz := xM.1
          have rL := xL.2 3 _ rfl
          have rM := xM.2 3 _ rfl
          dsimp only at rL rM
          have BV := Lib.hid (bchain HB.out HBr.out)
          clear xL xM
          by_cases hlt : n3 < L.flanks.length
          · have hlt2 : n3 < M.flanks.length := by omega
            obtain ⟨bx, bxo, hAbx, hrowbx⟩ := HL.out.flanks.get (j := n3) (by omega)
            dsimp only at hAbx
            subst hAbx
            obtain ⟨x, hx⟩ : ∃ x, L.flanks[n3]? = some x := ⟨L.flanks[n3]'(by omega), List.getElem?_eq_getElem (by omega)⟩
            have c0 : V.cell? ⟨bx, bxo + n3 * 4, none⟩ = some (.int .i64 x.s) := (hrowbx.below BV.out).2 n3 x hx 0 _ rfl
            have c1 : V.cell? ⟨bx, bxo + n3 * 4 + 1, none⟩ = some (.int .i64 x.way) := (hrowbx.below BV.out).2 n3 x hx 1 _ rfl
            have c2 : V.cell? ⟨bx, bxo + n3 * 4 + 2, none⟩ = some (.int .i64 x.pt) := (hrowbx.below BV.out).2 n3 x hx 2 _ rfl
            have c3 : V.cell? ⟨bx, bxo + n3 * 4 + 3, none⟩ = some (.int .i64 x.pos) := (hrowbx.below BV.out).2 n3 x hx 3 _ rfl
            have lbx : bx < V.heap.size := (hrowbx.below BV.out).1
            obtain ⟨bz, bzo, hAbz, hrowbz⟩ := HM.out.flanks.get (j := n3) (by omega)
            dsimp only at hAbz
            subst hAbz
            obtain ⟨y, hy⟩ : ∃ y, M.flanks[n3]? = some y := ⟨M.flanks[n3]'(by omega), List.getElem?_eq_getElem (by omega)⟩
            have d0 : V.cell? ⟨bz, bzo + n3 * 4, none⟩ = some (.int .i64 y.s) := (hrowbz.below BV.out).2 n3 y hy 0 _ rfl
            have d1 : V.cell? ⟨bz, bzo + n3 * 4 + 1, none⟩ = some (.int .i64 y.way) := (hrowbz.below BV.out).2 n3 y hy 1 _ rfl
            have d2 : V.cell? ⟨bz, bzo + n3 * 4 + 2, none⟩ = some (.int .i64 y.pt) := (hrowbz.below BV.out).2 n3 y hy 2 _ rfl
            have d3 : V.cell? ⟨bz, bzo + n3 * 4 + 3, none⟩ = some (.int .i64 y.pos) := (hrowbz.below BV.out).2 n3 y hy 3 _ rfl
            have lbz : bz < V.heap.size := (hrowbz.below BV.out).1
            have hq : ∃ q, decide (x = y) = q ∧ (q = true → x = y) ∧ (q = false → x ≠ y) := ⟨_, rfl, of_decide_eq_true, of_decide_eq_false⟩
            obtain ⟨q, hq1, hq2, hq3⟩ := hq
            have HQ := Lib.hid (⟨hq2, hq3⟩ : _ ∧ _)
            have next : x = y → Hid (∀ (j : Nat) (x y : Flk), j < n3 + 1 → L.flanks[j]? = some x → M.flanks[j]? = some y → x = y) := fun h => Lib.hid fun j x' y' hj hx' hy' => by
              by_cases e : j = n3
              · subst e
                rw [hx] at hx'
                rw [hy] at hy'
                cases hx'
                cases hy'
                exact h
              · exact HJ.out j x' y' (by omega) hx' hy'
            have hne : x ≠ y → r = false := fun h => HF.out (fun e => ne_at hx hy h e.2.2.2.1)
            have NX := Lib.hid next
            have HNE := Lib.hid hne
            clear next hne hx hy hrowbx hrowbz hq2 hq3
            cases q
            · obtain rfl := HNE.out (HQ.out.2 rfl)
              go_wp2_with fail
              refine wp_region_ext (by kernel_rfl) (by kernel_rfl) fun hx => ?_
              repeat (go_big_quiet_step (fail))
              refine wpQuiet_nil ?_
              intro w5 b5
              have HB5 := Lib.hid (bchain HBr.out b5)
              clear b5
              go_wp2
              go_ret
              exact ⟨rfl, bchain HB.out HB5.out⟩
            · go_wp2_with fail
              refine wp_region_ext (by kernel_rfl) (by kernel_rfl) fun hx => ?_
              repeat (go_big_quiet_step (fail))
              refine wpQuiet_nil ?_
              intro w5 b5
              have HB5 := Lib.hid (bchain HBr.out b5)
              clear b5
              go_wp2
              go_roundw
              case rel => exact ⟨n3 + 1, by omega, by go_num, NX.out (HQ.out.1 (by simp)), HB5⟩
              case measure => simp [intOf]; omega
          obtain rfl : n3 = L.flanks.length := by omega
          have HE3 : Hid (L.flanks = M.flanks) := Lib.hid (eq_all HLE.out.2.2.2 HJ.out)
          obtain rfl := HT.out ⟨HTM.out, HE0.out, HE1.out, HE3.out, HE2.out⟩
          go_wp2
          go_ret
          exact ⟨rfl, BV.out⟩
end Go.Proofs.YtpnnbihofoomeaaDoor

/-
  LayoutOne's plain law: with one number out of its bounds a layout is not right.
-/
namespace Go.Proofs.YtpnnbihofoomeaaDoor
open Go.RowKit Go.Shelf

def setS (L : Lay) (a : Nat) (c : Sec) : Lay := ⟨L.secs.set a c, L.sigs, L.exits, L.flanks, L.t0, L.t1, L.t2, L.t3, L.t4, L.t5, L.t6⟩
def addG (L : Lay) (x : Prt) : Lay := ⟨L.secs, L.sigs ++ [x], L.exits, L.flanks, L.t0, L.t1, L.t2, L.t3, L.t4, L.t5, L.t6⟩
def addE (L : Lay) (x : Ext') : Lay := ⟨L.secs, L.sigs, L.exits ++ [x], L.flanks, L.t0, L.t1, L.t2, L.t3, L.t4, L.t5, L.t6⟩
def addF (L : Lay) (x : Flk) : Lay := ⟨L.secs, L.sigs, L.exits, L.flanks ++ [x], L.t0, L.t1, L.t2, L.t3, L.t4, L.t5, L.t6⟩
theorem not_same {L M : Lay} (h : rightL L = true) (h' : rightL M = false) : sameL L M = false := by
  cases e : sameL L M with
  | false => rfl
  | true =>
    obtain ⟨e1, e2, e3, e4, e5⟩ := (same_iff L M).1 e
    obtain ⟨a, b, c, d, t0, t1, t2, t3, t4, t5, t6⟩ := L
    obtain ⟨a', b', c', d', t0', t1', t2', t3', t4', t5', t6'⟩ := M
    simp only [Lay.times, List.cons.injEq] at e1
    obtain ⟨rfl, rfl, rfl, rfl, rfl, rfl, rfl, _⟩ := e1
    dsimp only at e2 e3 e4 e5
    subst e2 e3 e4 e5
    rw [h] at h'
    cases h'
theorem no_secs {L : Lay} {a : Nat} {c : Sec} (ha : a < L.secs.length) (h : rightT c = false) : rightL (setS L a c) = false := by
  rw [← rightR_eq]
  refine (rightR_facts _).1 a c (by simp [setS, ha]) ?_
  unfold secR
  rw [h]
  simp
theorem has_far {L : Lay} {s q : Int} (h : ¬ (0 ≤ s ∧ s < L.secs.length)) : hasB L s q = false := by
  unfold hasB atO
  rw [secAt_none h]
  rfl
theorem no_join {L : Lay} {a : Nat} {c : Sec} (ha : a < L.secs.length) (h : (L.secs.length : Int) ≤ c.s0) : rightL (setS L a c) = false := by
  rw [← rightR_eq]
  refine (rightR_facts _).1 a c (by simp [setS, ha]) ((secR_facts _ c).1 0 (by omega) ?_)
  unfold jokT
  rw [has_far (by show ¬ (0 ≤ c.s0 ∧ c.s0 < ((L.secs.set a c).length : Int)); rw [List.length_set]; omega), Bool.or_false, decide_eq_false_iff_not]
  show ¬ c.s0 < 0
  omega
theorem kPorts_two {c : Sec} (h : rightT c = true) : 2 ≤ kPorts c.k := by
  unfold rightT at h
  simp only [Bool.and_eq_true] at h
  have h1 := h.1.1
  unfold kPorts at h1 ⊢
  split
  · omega
  split
  · omega
  split
  · omega
  · rename_i a b d
    simp [a, b, d] at h1
theorem sec_right {L : Lay} (h : rightL L = true) {a : Nat} {c : Sec} (hc : L.secs[a]? = some c) : rightT c = true := by
  unfold rightL at h
  simp only [Bool.and_eq_true, List.all_eq_true] at h
  exact h.1.1.1.2 c (List.mem_of_getElem? hc)
theorem bad_kind (c : Sec) : rightT { c with k := 4 } = false := by simp [rightT, kPorts]
theorem bad_join {c : Sec} (hk : 2 ≤ kPorts c.k) {s q : Int} (h : mayT s q = false) : rightT { c with s1 := s, p1 := q } = false :=
  (rightT_facts _).1 1 (by omega) (by
    unfold portT
    rw [if_pos (by show ((1 : Nat) : Int) < kPorts c.k; omega)]
    exact h)
theorem bad_class0 (c : Sec) {n : Int} (h : 3 < n) : rightT { c with c0 := n } = false :=
  (rightT_facts _).2.1 0 (by omega) (by
    unfold classT
    have : decide (({ c with c0 := n } : Sec).C 0 ≤ 3) = false := decide_eq_false (by show ¬ n ≤ 3; omega)
    rw [this]
    simp)
theorem bad_class1 (c : Sec) {n : Int} (h : n < 0) : rightT { c with c1 := n } = false :=
  (rightT_facts _).2.1 1 (by omega) (by
    unfold classT
    have : decide (0 ≤ ({ c with c1 := n } : Sec).C 1) = false := decide_eq_false (by show ¬ 0 ≤ n; omega)
    rw [this]
    simp)
theorem no_times {L : Lay} {t : Int} (ht : t ∈ L.times) (h : t < 1 ∨ 1000 < t) : rightL L = false := by
  have e : timesT L = false := by
    unfold timesT
    rw [List.all_eq_false]
    refine ⟨t, ht, ?_⟩
    simp
    omega
  unfold rightL
  rw [e]
  simp
theorem no_sig {L : Lay} {s q : Int} (h : 4 ≤ q ∨ q < 0) : rightL (addG L ⟨s, q⟩) = false := by
  rw [← rightR_eq]
  refine (rightR_facts _).2.1 L.sigs.length ⟨s, q⟩ (by simp [addG]) ?_
  show (atO _ s q).isSome = false
  unfold atO
  cases secAt (addG L ⟨s, q⟩) s with
  | none => rfl
  | some c =>
    have : kPorts c.k ≤ 4 := by rcases kCases c.k with h | h | h | h <;> omega
    rw [Option.bind_some, if_neg (by omega)]
    rfl
theorem pairs_same (k : Int) : wayB k 0 0 = false := by
  unfold wayB wayF
  rcases kCases k with ⟨rfl, _⟩ | ⟨rfl, _⟩ | ⟨rfl, _⟩ | h
  · decide
  · decide
  · decide
  · simp [pairs, prs, h]
theorem no_over {L : Lay} {a : Nat} {s p : Int} : rightL (addE L ⟨s, p, [⟨a, 0, 0⟩]⟩) = false := by
  rw [← rightR_eq]
  refine (rightR_facts _).2.2.1 L.exits.length ⟨s, p, [⟨a, 0, 0⟩]⟩ (by simp [addE]) ?_
  have h0 : ∀ M : Lay, stepB M a 0 0 = false := fun M => by
    unfold stepB
    cases secAt M a with
    | none => rfl
    | some c => exact pairs_same c.k
  unfold exitR
  simp [h0]
theorem no_exit {L : Lay} {p : Int} {o : List Stp} : rightL (addE L ⟨-1, p, o⟩) = false := by
  rw [← rightR_eq]
  refine (rightR_facts _).2.2.1 L.exits.length ⟨-1, p, o⟩ (by simp [addE]) ?_
  unfold exitR
  rw [has_far (by show ¬ ((0 : Int) ≤ -1 ∧ _); omega)]
  simp
theorem no_flank {L : Lay} {a x y : Int} : rightL (addF L ⟨a, x, a, y⟩) = false := by
  rw [← rightR_eq]
  refine (rightR_facts _).2.2.2.1 L.flanks.length ⟨a, x, a, y⟩ (by simp [addF]) ?_
  unfold flankT
  rw [decide_eq_false_iff_not]
  exact fun h => h.2.2.1 rfl
end Go.Proofs.YtpnnbihofoomeaaDoor

/-
  slices.Clone at the structs of a layout.
-/
namespace Go.Proofs.YtpnnbihofoomeaaDoor
open Go.RowKit Go.Shelf

theorem flat_get {α : Type} {enc : α → List Value} {k : Nat} (hk : ∀ x, (enc x).length = k) (h0 : 0 < k) : ∀ (xs : List α) (j : Nat), (xs.flatMap enc)[j]? = (xs[j / k]?).bind fun x => (enc x)[j % k]?
  | [], j => by simp
  | x :: xs, j => by
    rw [List.flatMap_cons]
    by_cases h : j < k
    · rw [List.getElem?_append_left (by rw [hk]; exact h), Nat.div_eq_of_lt h, Nat.mod_eq_of_lt h]
      rfl
    · rw [List.getElem?_append_right (by rw [hk]; omega), hk, flat_get hk h0 xs (j - k)]
      obtain ⟨i, rfl⟩ : ∃ i, j = i + k := ⟨j - k, by omega⟩
      rw [Nat.add_sub_cancel, Nat.add_div_right _ h0, Nat.add_mod_right]
      rfl
theorem flat_len {α : Type} {enc : α → List Value} {k : Nat} (hk : ∀ x, (enc x).length = k) (xs : List α) : (xs.flatMap enc).length = xs.length * k := by
  induction xs with
  | nil => simp
  | cons x xs ih => rw [List.flatMap_cons, List.length_append, hk, ih, List.length_cons, Nat.add_mul, Nat.one_mul, Nat.add_comm]
theorem add_at {b o j : Nat} : (⟨b, o, none⟩ : Addr).add j = ⟨b, o + j, none⟩ := by unfold Addr.add; split <;> simp_all
theorem flat_cells {α : Type} {enc : α → List Value} {k : Nat} (hk : ∀ x, (enc x).length = k) (h0 : 0 < k) {W : World} {b off : Nat} {xs : List α} (h : RowAt' W k enc b off xs) (j : Nat) (u : Value) (hu : (xs.flatMap enc)[j]? = some u) : W.cell? ((⟨b, off, none⟩ : Addr).add j) = some u := by
  rw [flat_get hk h0] at hu
  obtain ⟨x, hx, hv⟩ := Option.bind_eq_some_iff.1 hu
  rw [add_at]
  have := h.2 (j / k) x hx (j % k) u hv
  rwa [Nat.add_assoc, Nat.mul_comm, Nat.div_add_mod] at this
theorem at_of_row {α : Type} {enc : α → List Value} {k : Nat} (hk : ∀ x, (enc x).length = k) (h0 : 0 < k) {W : World} {B e : Nat} {v : Value} {xs : List α} (h : W.ownsRow B e k v xs.length (xs.flatMap enc)) : Sl W k enc v xs := by
  have hc := fun g hg => h.cells (g := g) hg
  rcases h.2 with ⟨rfl, hz⟩ | ⟨g, cap, cur, rfl, hb, hg, h1, h2, _, _⟩
  · exact ⟨none, 0, by rw [hz], by omega, by unfold maxLen; omega, .inl (List.eq_nil_of_length_eq_zero hz)⟩
  · refine ⟨_, cap, rfl, h1, h2, .inr ⟨g, 0, rfl, (Array.getElem?_eq_some_iff.1 hg).1, fun j x hx i u hu => ?_⟩⟩
    have hlt : i < k := by rw [← hk x]; exact (List.getElem?_eq_some_iff.1 hu).1
    have := hc g rfl (j * k + i) u (by
      rw [flat_get hk h0, show (j * k + i) / k = j by rw [Nat.mul_comm, Nat.mul_add_div h0, Nat.div_eq_of_lt hlt]; omega, hx, show (j * k + i) % k = i by rw [Nat.mul_comm, Nat.mul_add_mod]; exact Nat.mod_eq_of_lt hlt]
      exact hu)
    rw [add_at] at this
    rwa [Nat.add_assoc]
/-- A copy comes back, in a row of its own. -/
def CloneOf {α : Type} (e : TypeId) (k : Nat) (enc : α → List Value) (xs : List α) (w : World) (en : Ending) (w' : World) : Prop :=
  ∃ v, en = .returned v ∧ w'.ownsRow w.heap.size e k v xs.length (xs.flatMap enc) ∧ Below w.heap.size w w'

theorem info_Section : ∃ i z, Tryd.prog.info? 69 = some i ∧ i.zero = some z ∧ i.size = 11 ∧ z.cells.size = 11 ∧ i.bytes ≤ 100 := by
  have h : (Tryd.prog.info? 69).any (fun i => (match i.zero with | some z => decide (z.cells.size = 11) | none => false) && decide (i.size = 11) && decide (i.bytes ≤ 100)) = true := by kernel_rfl
  cases hi : Tryd.prog.info? 69 with
  | none => rw [hi] at h; cases h
  | some i =>
    rw [hi] at h
    simp only [Option.any_some, Bool.and_eq_true, decide_eq_true_iff] at h
    cases hz : i.zero with
    | none => rw [hz] at h; simp at h
    | some z =>
      rw [hz] at h
      simp at h
      exact ⟨i, z, rfl, hz, h.1.2, h.1.1, h.2⟩
theorem info_Signal : ∃ i z, Tryd.prog.info? 71 = some i ∧ i.zero = some z ∧ i.size = 2 ∧ z.cells.size = 2 ∧ i.bytes ≤ 100 := by
  have h : (Tryd.prog.info? 71).any (fun i => (match i.zero with | some z => decide (z.cells.size = 2) | none => false) && decide (i.size = 2) && decide (i.bytes ≤ 100)) = true := by kernel_rfl
  cases hi : Tryd.prog.info? 71 with
  | none => rw [hi] at h; cases h
  | some i =>
    rw [hi] at h
    simp only [Option.any_some, Bool.and_eq_true, decide_eq_true_iff] at h
    cases hz : i.zero with
    | none => rw [hz] at h; simp at h
    | some z =>
      rw [hz] at h
      simp at h
      exact ⟨i, z, rfl, hz, h.1.2, h.1.1, h.2⟩
theorem info_Flank : ∃ i z, Tryd.prog.info? 75 = some i ∧ i.zero = some z ∧ i.size = 4 ∧ z.cells.size = 4 ∧ i.bytes ≤ 100 := by
  have h : (Tryd.prog.info? 75).any (fun i => (match i.zero with | some z => decide (z.cells.size = 4) | none => false) && decide (i.size = 4) && decide (i.bytes ≤ 100)) = true := by kernel_rfl
  cases hi : Tryd.prog.info? 75 with
  | none => rw [hi] at h; cases h
  | some i =>
    rw [hi] at h
    simp only [Option.any_some, Bool.and_eq_true, decide_eq_true_iff] at h
    cases hz : i.zero with
    | none => rw [hz] at h; simp at h
    | some z =>
      rw [hz] at h
      simp at h
      exact ⟨i, z, rfl, hz, h.1.2, h.1.1, h.2⟩
theorem info_Exit : ∃ i z, Tryd.prog.info? 51 = some i ∧ i.zero = some z ∧ i.size = 3 ∧ z.cells.size = 3 ∧ i.bytes ≤ 100 := by
  have h : (Tryd.prog.info? 51).any (fun i => (match i.zero with | some z => decide (z.cells.size = 3) | none => false) && decide (i.size = 3) && decide (i.bytes ≤ 100)) = true := by kernel_rfl
  cases hi : Tryd.prog.info? 51 with
  | none => rw [hi] at h; cases h
  | some i =>
    rw [hi] at h
    simp only [Option.any_some, Bool.and_eq_true, decide_eq_true_iff] at h
    cases hz : i.zero with
    | none => rw [hz] at h; simp at h
    | some z =>
      rw [hz] at h
      simp at h
      exact ⟨i, z, rfl, hz, h.1.2, h.1.1, h.2⟩
theorem info_Step : ∃ i z, Tryd.prog.info? 73 = some i ∧ i.zero = some z ∧ i.size = 3 ∧ z.cells.size = 3 ∧ i.bytes ≤ 100 := by
  have h : (Tryd.prog.info? 73).any (fun i => (match i.zero with | some z => decide (z.cells.size = 3) | none => false) && decide (i.size = 3) && decide (i.bytes ≤ 100)) = true := by kernel_rfl
  cases hi : Tryd.prog.info? 73 with
  | none => rw [hi] at h; cases h
  | some i =>
    rw [hi] at h
    simp only [Option.any_some, Bool.and_eq_true, decide_eq_true_iff] at h
    cases hz : i.zero with
    | none => rw [hz] at h; simp at h
    | some z =>
      rw [hz] at h
      simp at h
      exact ⟨i, z, rfl, hz, h.1.2, h.1.1, h.2⟩
end Go.Proofs.YtpnnbihofoomeaaDoor

/-
  A layout in rows of one's own (as the document's Own lays it): one cell set, one element more.
-/
namespace Go.Proofs.YtpnnbihofoomeaaDoor
open Go.RowKit Go.Shelf

theorem owns_below {W W' : World} {base : Nat} {e : TypeId} {size : Nat} {v : Value} {n : Nat} {xs : List Value} (h : W.ownsRow base e size v n xs) (k : Below W.heap.size W W') : W'.ownsRow base e size v n xs := by
  refine ⟨h.1, ?_⟩
  rcases h.2 with hn | ⟨g, cap, cur, e, hb, hgg, rest⟩
  · exact .inl hn
  · exact .inr ⟨g, cap, cur, e, hb, (k.block g (Array.getElem?_eq_some_iff.1 hgg).1).trans hgg, rest⟩
theorem owns_base {W : World} {base base' : Nat} {e : TypeId} {size : Nat} {v : Value} {n : Nat} {xs : List Value} (h : W.ownsRow base e size v n xs) (k : base' ≤ base) : W.ownsRow base' e size v n xs := by
  refine ⟨h.1, ?_⟩
  rcases h.2 with hn | ⟨g, cap, cur, e, hb, hgg, rest⟩
  · exact .inl hn
  · exact .inr ⟨g, cap, cur, e, Nat.le_trans k hb, hgg, rest⟩
/-- A world in which no row of elements e but those of block g is other than it was. -/
theorem owns_kept {W W' : World} {g base : Nat} {e : TypeId} {size : Nat} {v : Value} {n : Nat} {xs : List Value} (h : W.ownsRow base e size v n xs) (hk : ∀ k, k < W.heap.size → k ≠ g → W'.heap[k]? = W.heap[k]?) (hp : ∀ cur, W.heap[g]? ≠ some (.cells cur e (0, 0))) : W'.ownsRow base e size v n xs := by
  refine ⟨h.1, ?_⟩
  rcases h.2 with hn | ⟨g', cap, cur, e1, hb, hg, rest⟩
  · exact .inl hn
  · exact .inr ⟨g', cap, cur, e1, hb, (hk g' (Array.getElem?_eq_some_iff.1 hg).1 (fun h => hp cur (h ▸ hg))).trans hg, rest⟩
theorem owns_set {W : World} {base : Nat} {e : TypeId} {size g n cap i : Nat} {xs : List Value} (u : Value) (h : W.ownsRow base e size (.slice (some ⟨g, 0, none⟩) n cap) n xs) : (W.setCell ⟨g, i, none⟩ u).ownsRow base e size (.slice (some ⟨g, 0, none⟩) n cap) n (xs.set i u) := by
  rcases h.2 with ⟨h, _⟩ | ⟨g', cap', cur, e1, hb, hg, h1, h2, h3, h4⟩
  · cases h
  · cases e1
    refine ⟨by simpa using h.1, .inr ⟨g, cap, cur.setIfInBounds i u, rfl, hb, heap_setCell_same _ _ _ _ _ _ hg, h1, h2, by simpa using h3, ?_⟩⟩
    rw [Array.toList_setIfInBounds, List.take_set, h4]
theorem owns_heap {W : World} {base : Nat} {e : TypeId} {size n cap : Nat} {A : Option Addr} {xs : List Value} (h : W.ownsRow base e size (.slice A n cap) n xs) (hn : 0 < n) : ∃ g cur, A = some ⟨g, 0, none⟩ ∧ base ≤ g ∧ W.heap[g]? = some (.cells cur e (0, 0)) ∧ cap ≤ maxLen ∧ n ≤ cap := by
  rcases h.2 with ⟨_, h⟩ | ⟨g, cap', cur, e1, hb, hg, h1, h2, _⟩
  · omega
  · cases e1
    exact ⟨g, cur, rfl, hb, hg, h2, h1⟩
theorem flat_set {α : Type} {enc : α → List Value} {k : Nat} (hk : ∀ x, (enc x).length = k) : ∀ (xs : List α) (j o : Nat) (x y : α) (u : Value), xs[j]? = some x → o < k → enc y = (enc x).set o u → (xs.set j y).flatMap enc = (xs.flatMap enc).set (j * k + o) u
  | [], _, _, _, _, _, h, _, _ => by simp at h
  | z :: xs, 0, o, x, y, u, h, ho, e => by
    obtain rfl : z = x := by simpa using h
    rw [List.set_cons_zero, List.flatMap_cons, List.flatMap_cons, e, List.set_append_left _ _ (by rw [hk]; omega)]
    simp
  | z :: xs, j + 1, o, x, y, u, h, ho, e => by
    rw [List.set_cons_succ, List.flatMap_cons, List.flatMap_cons, List.set_append_right _ _ (by rw [hk, Nat.add_mul]; omega), hk, flat_set hk xs j o x y u (by simpa using h) ho e]
    congr 2
    rw [Nat.add_mul]
    omega

/-- A layout whose slices are rows of one's own. -/
structure Owned (B : Nat) (W : World) (p : Where) (L : Lay) (es : List (Ext' × Value)) : Prop where
  secs : W.ownsRow B 69 11 (.slice p.a0 L.secs.length p.c0) L.secs.length (L.secs.flatMap Sec.enc)
  sigs : W.ownsRow B 71 2 (.slice p.a1 L.sigs.length p.c1) L.sigs.length (L.sigs.flatMap Prt.enc)
  exits : W.ownsRow B 51 3 (.slice p.a2 L.exits.length p.c2) L.exits.length (es.flatMap Ext'.enc)
  flanks : W.ownsRow B 75 4 (.slice p.a3 L.flanks.length p.c3) L.flanks.length (L.flanks.flatMap Flk.enc)
  heads : es.map (·.1) = L.exits
  overs : ∀ t ∈ es, W.ownsRow B 73 3 t.2 t.1.over.length (t.1.over.flatMap Stp.enc)
  kinds : ∀ c ∈ L.secs, 0 ≤ c.k ∧ c.k ≤ 255
theorem sl_get {α : Type} {W : World} {k n c : Nat} {enc : α → List Value} {A : Option Addr} {xs : List α} (h : Sl W k enc (.slice A n c) xs) : At W k enc A xs ∧ (xs.length ≤ c ∧ c ≤ 9223372036854775807) := by
  obtain ⟨A', c', e, h1, h2, h3⟩ := h
  cases e
  exact ⟨h3, h1, h2⟩
theorem Owned.lay {B : Nat} {W : World} {p : Where} {L : Lay} {es : List (Ext' × Value)} (h : Owned B W p L es) : LayAt W p L := by
  have h0 := sl_get (at_of_row (k := 11) (fun _ => rfl) (by decide) h.secs)
  have h1 := sl_get (at_of_row (k := 2) (fun _ => rfl) (by decide) h.sigs)
  have h3 := sl_get (at_of_row (k := 4) (fun _ => rfl) (by decide) h.flanks)
  have hl : L.exits.length = es.length := by rw [← h.heads, List.length_map]
  have h2 := sl_get (at_of_row (k := 3) (xs := es) (fun _ => rfl) (by decide) (by have := h.exits; rw [hl] at this; exact this))
  exact ⟨h0.1, h1.1, ⟨es, h.heads, h2.1, fun t ht => at_of_row (k := 3) (fun _ => rfl) (by decide) (h.overs t ht)⟩, h3.1, h0.2, h1.2, by rw [hl]; exact h2.2, h3.2, h.kinds⟩
theorem Owned.below {B : Nat} {W W' : World} {p : Where} {L : Lay} {es : List (Ext' × Value)} (h : Owned B W p L es) (k : Below W.heap.size W W') : Owned B W' p L es :=
  ⟨owns_below h.secs k, owns_below h.sigs k, owns_below h.exits k, owns_below h.flanks k, h.heads, fun t ht => owns_below (h.overs t ht) k, h.kinds⟩
theorem Owned.base {B B' : Nat} {W : World} {p : Where} {L : Lay} {es : List (Ext' × Value)} (h : Owned B W p L es) (hb : B' ≤ B) : Owned B' W p L es :=
  ⟨owns_base h.secs hb, owns_base h.sigs hb, owns_base h.exits hb, owns_base h.flanks hb, h.heads, fun t ht => owns_base (h.overs t ht) hb, h.kinds⟩
/-- Another block is other than it was: one that is no row of these elements. -/
theorem Owned.kept {B g : Nat} {W W' : World} {p : Where} {L : Lay} {es : List (Ext' × Value)} (h : Owned B W p L es) (hk : ∀ k, k < W.heap.size → k ≠ g → W'.heap[k]? = W.heap[k]?) {c : Array Value} {e : TypeId} (hg : W.heap[g]? = some (.cells c e (0, 0)))
    (h0 : e ≠ 69) (h1 : e ≠ 71) (h2 : e ≠ 51) (h3 : e ≠ 75) (h4 : e ≠ 73) : Owned B W' p L es := by
  have hp : ∀ (e' : TypeId), e ≠ e' → ∀ cur, W.heap[g]? ≠ some (.cells cur e' (0, 0)) := fun e' hn cur hc => by rw [hg] at hc; cases hc; exact hn rfl
  exact ⟨owns_kept h.secs hk (hp _ h0), owns_kept h.sigs hk (hp _ h1), owns_kept h.exits hk (hp _ h2), owns_kept h.flanks hk (hp _ h3), h.heads, fun t ht => owns_kept (h.overs t ht) hk (hp _ h4), h.kinds⟩
theorem set_others (W : World) (p : Addr) (u : Value) : ∀ k, k < W.heap.size → k ≠ p.block → (W.setCell p u).heap[k]? = W.heap[k]? := fun _ _ hk => Below.heap_setCell _ _ _ _ hk
/-- One cell of a section set. -/
theorem Owned.set {B g a o : Nat} {W : World} {p : Where} {L : Lay} {es : List (Ext' × Value)} {c c' : Sec} {u : Value} (h : Owned B W p L es) (hp : p.a0 = some ⟨g, 0, none⟩) (hc : L.secs[a]? = some c) (ho : o < 11) (he : c'.enc = c.enc.set o u) (hk : 0 ≤ c'.k ∧ c'.k ≤ 255) :
    Owned B (W.setCell ⟨g, a * 11 + o, none⟩ u) p (setS L a c') es := by
  have hn : 0 < L.secs.length := by have := (List.getElem?_eq_some_iff.1 hc).1; omega
  obtain ⟨g', cur, e, _, hg, _⟩ := owns_heap h.secs hn
  rw [hp] at e
  obtain rfl : g = g' := by cases e; rfl
  have hr := h.secs
  rw [hp] at hr
  have hq : ∀ (e' : TypeId), 69 ≠ e' → ∀ cur, W.heap[g]? ≠ some (.cells cur e' (0, 0)) := fun e' hn cur hc => by rw [hg] at hc; cases hc; exact hn rfl
  have hs := set_others W ⟨g, a * 11 + o, none⟩ u
  refine ⟨?_, owns_kept h.sigs hs (hq _ (by decide)), owns_kept h.exits hs (hq _ (by decide)), owns_kept h.flanks hs (hq _ (by decide)), h.heads, fun t ht => owns_kept (h.overs t ht) hs (hq _ (by decide)), fun x hx => ?_⟩
  · rw [hp]
    show (W.setCell ⟨g, a * 11 + o, none⟩ u).ownsRow B _ 11 (.slice _ (L.secs.set a c').length _) (L.secs.set a c').length ((L.secs.set a c').flatMap Sec.enc)
    rw [List.length_set, flat_set (k := 11) (fun _ => rfl) L.secs a o c c' u hc ho he]
    exact owns_set u hr
  · rcases List.mem_or_eq_of_mem_set hx with hx | rfl
    · exact h.kinds x hx
    · exact hk
/-- An append to one of the rows. -/
theorem grown_others {W W' : World} {v : Value} (h : W.grownBy W' v.ownBlock) {g : Nat} (hv : ∀ k, v.ownBlock = some k → k = g) : ∀ k, k < W.heap.size → k ≠ g → W'.heap[k]? = W.heap[k]? :=
  fun k hk hn => h.block k hk fun e => hn (hv k e.symm)
theorem owns_grown {W W' : World} {base : Nat} {e e' : TypeId} {size size' : Nat} {v v' : Value} {n n' : Nat} {xs xs' : List Value} (h : W.ownsRow base e size v n xs) (h' : W.ownsRow base e' size' v' n' xs') (k : W.grownBy W' v'.ownBlock) (hn : e' ≠ e) : W'.ownsRow base e size v n xs := by
  refine ⟨h.1, ?_⟩
  rcases h.2 with hn | ⟨g, cap, cur, e1, hb, hg, rest⟩
  · exact .inl hn
  · refine .inr ⟨g, cap, cur, e1, hb, (k.block g (Array.getElem?_eq_some_iff.1 hg).1 fun he => ?_).trans hg, rest⟩
    rcases h'.2 with ⟨rfl, _⟩ | ⟨g', cap', cur', rfl, _, hg', _⟩
    · cases he
    · obtain rfl : g = g' := by simpa [Value.ownBlock] using he
      rw [hg] at hg'
      cases hg'
      exact hn rfl
theorem Owned.addG {B n' c' : Nat} {A' : Option Addr} {W W' : World} {p : Where} {L : Lay} {es : List (Ext' × Value)} {x : Prt} (h : Owned B W p L es) (k : W.grownBy W' (Value.slice p.a1 L.sigs.length p.c1).ownBlock) (hr : W'.ownsRow B 71 2 (.slice A' n' c') (L.sigs.length + 1) (L.sigs.flatMap Prt.enc ++ [x].flatMap Prt.enc)) :
    n' = L.sigs.length + 1 ∧ Owned B W' ⟨p.a0, A', p.a2, p.a3, p.c0, c', p.c2, p.c3⟩ (addG L x) es := by
  have hn : n' = L.sigs.length + 1 := by
    rcases hr.2 with ⟨e, _⟩ | ⟨g, cap, cur, e, _⟩ <;> cases e
    · omega
    · rfl
  subst hn
  refine ⟨rfl, owns_grown h.secs h.sigs k (by decide), ?_, owns_grown h.exits h.sigs k (by decide), owns_grown h.flanks h.sigs k (by decide), h.heads, fun t ht => owns_grown (h.overs t ht) h.sigs k (by decide), h.kinds⟩
  show W'.ownsRow B _ 2 (.slice _ (L.sigs ++ [x]).length _) (L.sigs ++ [x]).length ((L.sigs ++ [x]).flatMap Prt.enc)
  rw [List.length_append, List.flatMap_append]
  exact hr
theorem Owned.addF {B n' c' : Nat} {A' : Option Addr} {W W' : World} {p : Where} {L : Lay} {es : List (Ext' × Value)} {x : Flk} (h : Owned B W p L es) (k : W.grownBy W' (Value.slice p.a3 L.flanks.length p.c3).ownBlock) (hr : W'.ownsRow B 75 4 (.slice A' n' c') (L.flanks.length + 1) (L.flanks.flatMap Flk.enc ++ [x].flatMap Flk.enc)) :
    n' = L.flanks.length + 1 ∧ Owned B W' ⟨p.a0, p.a1, p.a2, A', p.c0, p.c1, p.c2, c'⟩ (addF L x) es := by
  have hn : n' = L.flanks.length + 1 := by
    rcases hr.2 with ⟨e, _⟩ | ⟨g, cap, cur, e, _⟩ <;> cases e
    · omega
    · rfl
  subst hn
  refine ⟨rfl, owns_grown h.secs h.flanks k (by decide), owns_grown h.sigs h.flanks k (by decide), owns_grown h.exits h.flanks k (by decide), ?_, h.heads, fun t ht => owns_grown (h.overs t ht) h.flanks k (by decide), h.kinds⟩
  show W'.ownsRow B _ 4 (.slice _ (L.flanks ++ [x]).length _) (L.flanks ++ [x]).length ((L.flanks ++ [x]).flatMap Flk.enc)
  rw [List.length_append, List.flatMap_append]
  exact hr
/-- One exit more: its overlap is a slice v that holds it. -/
theorem Owned.addE {B n' c' : Nat} {A' : Option Addr} {W W' : World} {p : Where} {L : Lay} {es : List (Ext' × Value)} {x : Ext'} {v : Value} (h : Owned B W p L es) (k : W.grownBy W' (Value.slice p.a2 L.exits.length p.c2).ownBlock) (hr : W'.ownsRow B 51 3 (.slice A' n' c') (L.exits.length + 1) (es.flatMap Ext'.enc ++ [(x, v)].flatMap Ext'.enc)) (hv : W.ownsRow B 73 3 v x.over.length (x.over.flatMap Stp.enc)) :
    n' = L.exits.length + 1 ∧ Owned B W' ⟨p.a0, p.a1, A', p.a3, p.c0, p.c1, c', p.c3⟩ (addE L x) (es ++ [(x, v)]) := by
  have hn : n' = L.exits.length + 1 := by
    rcases hr.2 with ⟨e, _⟩ | ⟨g, cap, cur, e, _⟩ <;> cases e
    · omega
    · rfl
  subst hn
  refine ⟨rfl, owns_grown h.secs h.exits k (by decide), owns_grown h.sigs h.exits k (by decide), ?_, owns_grown h.flanks h.exits k (by decide), ?_, fun t ht => ?_, h.kinds⟩
  · show W'.ownsRow B _ 3 (.slice _ (L.exits ++ [x]).length _) (L.exits ++ [x]).length _
    rw [List.length_append, List.flatMap_append]
    exact hr
  · show _ = L.exits ++ [x]
    rw [List.map_append, h.heads]
    rfl
  · rcases List.mem_append.1 ht with ht | ht
    · exact owns_grown (h.overs t ht) h.exits k (by decide)
    · rw [List.mem_singleton.1 ht]
      exact owns_grown hv h.exits k (by decide)
end Go.Proofs.YtpnnbihofoomeaaDoor

/-
  A region that draws its order, told by relations: each operation, whenever it comes up behind those for which it waits, leaves a value that meets a relation of its own, which no later operation breaks; so at the end all relations hold, whatever the order was.
-/
namespace Go.Proofs.YtpnnbihofoomeaaDoor
open Go.RowKit

/-- What is known of an operation's value. -/
abbrev Rel := Value → World → Prop
/-- A temporary at which an operation looks: written by which of the operations ahead (0: the one just ahead), or by none yet. -/
abbrev Look := Nat × Option Nat
/-- What one operation looks at; its guard's temporary. -/
abbrev Looks := List Look × Option (Nat × Bool)

section
variable (P : Program) (C : World → Prop) (St : World → World → Prop) (a0 : Act)

/-- What an operand that is no temporary holds. -/
structure Consts (ρ : Operand → Value) : Prop where
  const : ∀ v, ρ (.const v) = v
  global : ∀ g, ρ (.global g) = .pointer (some ⟨g, 0, none⟩)
  func : ∀ f, ρ (.func f) = .func (.func f) #[] #[]

def seen (known : List Rel) (ρ : Operand → Value) (w : World) : List Look → Prop → Prop
  | [], G => G
  | (t, some d) :: r, G => (known.getD d fun _ _ => True) (ρ (.tmp t)) w → seen known ρ w r G
  | (t, none) :: r, G => ρ (.tmp t) = a0.eval (.tmp t) → seen known ρ w r G

def relUpon (w : World) (T : Rel) : Result Next → Prop
  | .ok (.value v) w' => C w' ∧ St w w' ∧ T v w'
  | .ok .skip w' => C w' ∧ St w w' ∧ T undef w'
  | .ok (.enter f args) w' => Calls P f args w' fun e w'' => ∃ v, e = .returned v ∧ C w'' ∧ St w w'' ∧ T v w''
  | _ => False

def obOp (o : Oper) (gd : Option (Nat × Bool)) (T : Rel) (ρ : Operand → Value) (w : World) : Prop :=
  match gd with
  | none => relUpon P C St w T ((execOp ρ o).run P w)
  | some (t, b) => (ρ (.tmp t) = .bool b → relUpon P C St w T ((execOp ρ o).run P w)) ∧ (ρ (.tmp t) ≠ .bool b → T undef w)

/-- What is owed of the operations, in the order of the text. -/
def obFrom (fin : List Rel → Prop) : List Oper → List Looks → List Rel → Prop
  | [], _, known => fin known
  | o :: os, ls :: lss, known => ∃ T : Rel, (∀ v w w', T v w → St w w' → T v w') ∧ (∀ ρ w, Consts ρ → C w → seen a0 known ρ w ls.1 (obOp P C St o ls.2 T ρ w)) ∧ obFrom fin os lss (T :: known)
  | _ :: _, [], _ => False
end

/-! ### The Bool -/
def waitsB (ops : Array Oper) (i j : Nat) : Bool := match ops[i]? with
  | some o => o.after.any fun e => Region.binds .any e && e.on == j
  | none => false
def writesB (ops : Array Oper) (j t : Nat) : Bool := match ops[j]? with
  | some o => o.dst == some t
  | none => false
def lookB (ops : Array Oper) (i : Nat) : Look → Bool
  | (t, some d) => decide (d < i) && writesB ops (i - 1 - d) t && waitsB ops i (i - 1 - d)
  | (t, none) => (List.range ops.size).all fun j => !writesB ops j t || j == i || waitsB ops j i
def guardB (ops : Array Oper) (o : Oper) : Option (Nat × Bool) → Bool
  | none => o.guard.isNone
  | some (t, b) => match o.guard with
    | some (g, b') => writesB ops g t && b' == b
    | none => false
def opB (ops : Array Oper) (N i : Nat) (o : Oper) (ls : Looks) : Bool :=
  (match o.op with | .select .. => false | _ => true) &&
  (match o.dst with | some d => decide (d < N) && (List.range ops.size).all (fun j => j == i || !writesB ops j d) | none => true) &&
  (o.op.operands.all fun x => match x with | .tmp t => ls.1.any (fun l => l.1 == t) | _ => true) &&
  ls.1.all (lookB ops i) && guardB ops o ls.2 && o.after.all (fun e => !Region.binds .any e || decide (e.on < i))
def relB (ops : Array Oper) (N : Nat) (lss : List Looks) : Bool :=
  (List.range ops.size).all fun i => match ops[i]?, lss[i]? with
    | some o, some ls => opB ops N i o ls
    | _, _ => false

section
variable {P : Program} {ops : Array Oper} {C : World → Prop} {St : World → World → Prop} {a0 : Act}

theorem seen_elim {known : List Rel} {ρ : Operand → Value} {w : World} {G : Prop} : ∀ {ls : List Look}, seen a0 known ρ w ls G → (∀ t d, (t, some d) ∈ ls → (known.getD d fun _ _ => True) (ρ (.tmp t)) w) → (∀ t, (t, none) ∈ ls → ρ (.tmp t) = a0.eval (.tmp t)) → G
  | [], h, _, _ => h
  | (t, some d) :: _, h, h1, h2 => seen_elim (h (h1 t d (List.mem_cons_self ..))) (fun t' d' hm => h1 t' d' (List.mem_cons_of_mem _ hm)) (fun t' hm => h2 t' (List.mem_cons_of_mem _ hm))
  | (t, none) :: _, h, h1, h2 => seen_elim (h (h2 t (List.mem_cons_self ..))) (fun t' d' hm => h1 t' d' (List.mem_cons_of_mem _ hm)) (fun t' hm => h2 t' (List.mem_cons_of_mem _ hm))

/-- The relations of all, and what is owed of each. -/
theorem ob_all {fin : List Rel → Prop} : ∀ (os : List Oper) (lss : List Looks) (known : List Rel), obFrom P C St a0 fin os lss known →
    ∃ R : List Rel, R.length = os.length ∧ fin (R.reverse ++ known) ∧ ∀ i o ls, os[i]? = some o → lss[i]? = some ls →
      (∀ v w w', (R.getD i fun _ _ => True) v w → St w w' → (R.getD i fun _ _ => True) v w') ∧
      ∀ ρ w, Consts ρ → C w → seen a0 ((R.take i).reverse ++ known) ρ w ls.1 (obOp P C St o ls.2 (R.getD i fun _ _ => True) ρ w)
  | [], _, known, h => ⟨[], rfl, h, fun i o ls ho _ => by simp at ho⟩
  | o :: os, [], known, h => h.elim
  | o :: os, ls :: lss, known, h => by
    obtain ⟨T, hT, hob, hr⟩ := h
    obtain ⟨R, hl, hf, hall⟩ := ob_all os lss (T :: known) hr
    refine ⟨T :: R, by simp [hl], by simpa using hf, fun i o' ls' ho hls => ?_⟩
    cases i with
    | zero =>
      simp only [List.getElem?_cons_zero, Option.some.injEq] at ho hls
      subst ho hls
      exact ⟨hT, hob⟩
    | succ i =>
      simp only [List.getElem?_cons_succ] at ho hls
      have := hall i o' ls' ho hls
      simpa using this

structure RInv (ops : Array Oper) (C : World → Prop) (a0 : Act) (R : List Rel) (listed : Array Bool) (a : Act) (w : World) : Prop where
  cls : C w
  defers : a.defers = a0.defers
  size : a.tmps.size = a0.tmps.size
  lsize : listed.size = ops.size
  facts : ∀ j o t, ops[j]? = some o → o.dst = some t → listed.getD j false = true → (R.getD j fun _ _ => True) (a.eval (.tmp t)) w
  olds : ∀ t, (∀ j, writesB ops j t = true → listed.getD j false = false) → a.eval (.tmp t) = a0.eval (.tmp t)
  down : ∀ j k, listed.getD j false = true → waitsB ops j k = true → listed.getD k false = true

theorem writesB_spec {j t : Nat} (h : writesB ops j t = true) : ∃ o, ops[j]? = some o ∧ o.dst = some t := by
  unfold writesB at h
  cases ho : ops[j]? with
  | none => simp [ho] at h
  | some o => simp only [ho] at h; exact ⟨o, rfl, by simpa using h⟩
theorem writesB_of {j t : Nat} {o : Oper} (ho : ops[j]? = some o) (hd : o.dst = some t) : writesB ops j t = true := by
  unfold writesB; simp [ho, hd]
theorem waitsB_spec {i j : Nat} (h : waitsB ops i j = true) : ∃ o, ops[i]? = some o ∧ ∃ e ∈ o.after, Region.binds .any e = true ∧ e.on = j := by
  unfold waitsB at h
  cases ho : ops[i]? with
  | none => simp [ho] at h
  | some o =>
    simp only [ho, Array.any_eq_true'] at h
    obtain ⟨e, he, hb⟩ := h
    simp only [Bool.and_eq_true, beq_iff_eq] at hb
    exact ⟨o, rfl, e, he, hb⟩

theorem eval_put_ne {a : Act} {d t : Nat} {v : Value} (h : d ≠ t) : (a.put (some d) v).eval (.tmp t) = a.eval (.tmp t) := by
  simp [Act.eval, Act.put, Array.getElem?_setIfInBounds_ne h]
theorem eval_put_eq {a : Act} {d : Nat} {v : Value} (h : d < a.tmps.size) : (a.put (some d) v).eval (.tmp d) = v := by
  simp [Act.eval, Act.put, h]

theorem wanted_of_guard {N : Nat} {o : Oper} {ls : Looks} {a : Act} (hsz : a.tmps.size = N) (hN : ∀ j t, writesB ops j t = true → t < N) (h : guardB ops o ls.2 = true) :
    match ls.2 with
    | none => Region.wanted o (yielded ops a.tmps) = true
    | some (t, b) => (Region.wanted o (yielded ops a.tmps) = true ↔ a.eval (.tmp t) = .bool b) := by
  obtain ⟨l1, gd⟩ := ls
  cases gd with
  | none =>
    simp only [guardB, Option.isNone_iff_eq_none] at h
    simp [Region.wanted, h]
  | some p =>
    obtain ⟨t, b⟩ := p
    simp only [guardB] at h
    cases hg : o.guard with
    | none => simp [hg] at h
    | some q =>
      obtain ⟨g, b'⟩ := q
      simp only [hg, Bool.and_eq_true, beq_iff_eq] at h
      obtain ⟨h1, rfl⟩ := h
      obtain ⟨og, ho, hd⟩ := writesB_spec h1
      have ht : t < a.tmps.size := by rw [hsz]; exact hN _ _ h1
      have e : a.tmps[t]? = some (a.eval (.tmp t)) := by simp [Act.eval, ht]
      dsimp only
      simp only [Region.wanted, hg, yielded, ho, Option.bind_some, hd, e]
      cases hv : a.eval (.tmp t) <;> simp

theorem wp_of_relUpon {Q : Exit → Act → World → Prop} {o : Oper} {a : Act} {w : World} {T : Rel} {K : Act → World → Prop} (h : relUpon P C St w T ((execOp a.eval o).run P w))
    (hK : ∀ v w', C w' → St w w' → T v w' → K (a.put o.dst v) w') : o.wp P a w K Q := by
  unfold Oper.wp
  generalize (execOp a.eval o).run P w = r at *
  cases r with
  | ok n w' =>
    cases n <;> simp only [relUpon] at h <;> simp only [Oper.upon]
    case value u => exact hK _ _ h.1 h.2.1 h.2.2
    case skip => exact hK _ _ h.1 h.2.1 h.2.2
    case enter f args => exact Calls.mono h fun e w'' ⟨v, he, h1, h2, h3⟩ => by subst he; exact hK _ _ h1 h2 h3
  | halt x w' => simp only [relUpon] at h

theorem relB_spec {N : Nat} {lss : List Looks} (h : relB ops N lss = true) {i : Nat} {o : Oper} (ho : ops[i]? = some o) : ∃ ls, lss[i]? = some ls ∧ opB ops N i o ls = true := by
  have h1 := List.all_eq_true.1 h i (List.mem_range.2 (Array.getElem?_eq_some_iff.1 ho).1)
  simp only [ho] at h1
  cases hl : lss[i]? with
  | none => simp [hl] at h1
  | some ls => simp only [hl] at h1; exact ⟨ls, rfl, h1⟩

theorem rel_ready_some {N : Nat} {lss : List Looks} (hB : relB ops N lss = true) {listed : Array Bool} (hl : listed.size = ops.size) : ∀ (i : Nat), i < ops.size → listed.getD i true = false → ∃ j, j ∈ Region.ready .any ops listed := by
  intro i
  induction i using Nat.strongRecOn with
  | _ i ih =>
    intro hi hu
    obtain ⟨o, ho⟩ : ∃ o, ops[i]? = some o := ⟨_, Array.getElem?_eq_getElem hi⟩
    obtain ⟨ls, hls, hop⟩ := relB_spec hB ho
    simp only [opB, Bool.and_eq_true] at hop
    by_cases h : ∀ e ∈ o.after, Region.binds .any e = true → listed.getD e.on false = true
    · exact ⟨i, mem_ready.2 ⟨hu, o, ho, h⟩⟩
    · simp only [Classical.not_forall] at h
      obtain ⟨e, he1, hb, h⟩ := h
      have h2 := Array.all_eq_true'.1 hop.2 e he1
      have hlt : e.on < i := by simpa [hb] using h2
      refine ih e.on hlt (by omega) ?_
      have hlt' : e.on < listed.size := by omega
      simp only [Array.getD_eq_getD_getElem?, Array.getElem?_eq_getElem hlt', Option.getD_some] at h ⊢
      simpa using h

theorem rel_any {Q : Exit → Act → World → Prop} {N : Nat} {lss : List Looks} {R : List Rel} (hB : relB ops N lss = true) (hN : a0.tmps.size = N)
    (hob : ∀ i o ls, ops[i]? = some o → lss[i]? = some ls →
      (∀ v w w', (R.getD i fun _ _ => True) v w → St w w' → (R.getD i fun _ _ => True) v w') ∧
      ∀ ρ w, Consts ρ → C w → seen a0 (R.take i).reverse ρ w ls.1 (obOp P C St o ls.2 (R.getD i fun _ _ => True) ρ w))
    (hR : R.length = ops.size) (hrefl : ∀ w, St w w)
    (hfin : ∀ a w, RInv ops C a0 R (Array.replicate ops.size true) a w → Q .normal a w) :
    ∀ (fuel : Nat) (listed : Array Bool) (a : Act) (w : World), listed.count false ≤ fuel → RInv ops C a0 R listed a w → wpAny P .any ops Q fuel listed a w := by
  have hNw : ∀ j t, writesB ops j t = true → t < N := fun j t h => by
    obtain ⟨o, ho, hd⟩ := writesB_spec h
    obtain ⟨ls, _, hop⟩ := relB_spec hB ho
    simp only [opB, hd, Bool.and_eq_true, decide_eq_true_eq] at hop
    exact hop.1.1.1.1.2.1
  have huniq : ∀ i j t, writesB ops i t = true → writesB ops j t = true → j = i := fun i j t h h' => by
    obtain ⟨o, ho, hd⟩ := writesB_spec h
    obtain ⟨ls, _, hop⟩ := relB_spec hB ho
    simp only [opB, hd, Bool.and_eq_true] at hop
    obtain ⟨oj, hoj, _⟩ := writesB_spec h'
    have := List.all_eq_true.1 hop.1.1.1.1.2.2 j (List.mem_range.2 (Array.getElem?_eq_some_iff.1 hoj).1)
    simpa [h'] using this
  have done : ∀ (listed : Array Bool) (a : Act) (w : World), RInv ops C a0 R listed a w → Region.ready .any ops listed = [] → Q .normal a w := by
    intro listed a w inv hr
    have hall : ∀ i, i < ops.size → listed.getD i true = true := fun i hi => by
      cases hx : listed.getD i true with
      | true => rfl
      | false =>
        obtain ⟨j, hj⟩ := rel_ready_some hB inv.lsize i hi hx
        rw [hr] at hj
        cases hj
    have e : listed = Array.replicate ops.size true := by
      apply Array.ext
      · simp [inv.lsize]
      · intro i h1 h2
        have := hall i (by rw [← inv.lsize]; exact h1)
        simp only [Array.getD_eq_getD_getElem?, Array.getElem?_eq_getElem h1, Option.getD_some] at this
        simpa using this
    rw [e] at inv
    exact hfin a w inv
  intro fuel
  induction fuel with
  | zero =>
    intro listed a w hc inv
    have hr : Region.ready .any ops listed = [] := by
      refine List.eq_nil_iff_forall_not_mem.2 fun i hi => ?_
      obtain ⟨hu, o, ho, _⟩ := mem_ready.1 hi
      have hlt : i < listed.size := by rw [inv.lsize]; exact (Array.getElem?_eq_some_iff.1 ho).1
      have hf : false ∈ listed := by
        simp only [Array.getD_eq_getD_getElem?, Array.getElem?_eq_getElem hlt, Option.getD_some] at hu
        exact Array.mem_of_getElem hu
      have := Array.count_pos_iff.2 hf
      omega
    exact ⟨hr, done listed a w inv hr⟩
  | succ fuel ih =>
    intro listed a w hc inv
    refine ⟨done listed a w inv, fun i hi => ?_⟩
    obtain ⟨hu, o, ho, hpre⟩ := mem_ready.1 hi
    have hi' : i < ops.size := (Array.getElem?_eq_some_iff.1 ho).1
    have hlt : i < listed.size := by rw [inv.lsize]; exact hi'
    have huf : listed[i] = false := by simpa [Array.getD_eq_getD_getElem?, Array.getElem?_eq_getElem hlt] using hu
    have huF : listed.getD i false = false := by simp [Array.getD_eq_getD_getElem?, Array.getElem?_eq_getElem hlt, huf]
    obtain ⟨ls, hls, hop⟩ := relB_spec hB ho
    simp only [opB, Bool.and_eq_true] at hop
    obtain ⟨⟨⟨⟨⟨_, hdst⟩, hopd⟩, hlook⟩, hguard⟩, hafter⟩ := hop
    obtain ⟨hst, hobi⟩ := hob i o ls ho hls
    have hobi := hobi a.eval w ⟨fun _ => rfl, fun _ => rfl, fun _ => rfl⟩ inv.cls
    have hwait : ∀ j, waitsB ops i j = true → listed.getD j false = true := fun j hw => by
      obtain ⟨o', ho', e, he, hb, rfl⟩ := waitsB_spec hw
      obtain rfl : o' = o := Option.some.inj (ho'.symm.trans ho)
      exact hpre e he hb
    have hG : obOp P C St o ls.2 (R.getD i fun _ _ => True) a.eval w := by
      refine seen_elim hobi (fun t d hm => ?_) (fun t hm => ?_)
      · have := List.all_eq_true.1 hlook _ hm
        simp only [lookB, Bool.and_eq_true, decide_eq_true_eq] at this
        obtain ⟨⟨hd, hw⟩, hwt⟩ := this
        obtain ⟨oj, hoj, hdj⟩ := writesB_spec hw
        have hf := inv.facts (i - 1 - d) oj t hoj hdj (hwait _ hwt)
        have hRi : i ≤ R.length := by omega
        have e : (R.take i).reverse.getD d (fun _ _ => True) = R.getD (i - 1 - d) (fun _ _ => True) := by
          simp only [List.getD_eq_getElem?_getD]
          rw [List.getElem?_reverse (by simp; omega)]
          simp only [List.length_take, Nat.min_eq_left hRi]
          rw [List.getElem?_take_of_lt (by omega)]
        rw [e]
        exact hf
      · have := List.all_eq_true.1 hlook _ hm
        simp only [lookB] at this
        refine inv.olds t fun j hw => ?_
        obtain ⟨oj, hoj, _⟩ := writesB_spec hw
        have := List.all_eq_true.1 this j (List.mem_range.2 (Array.getElem?_eq_some_iff.1 hoj).1)
        simp only [hw, Bool.not_true, Bool.false_or, Bool.or_eq_true, beq_iff_eq] at this
        rcases this with rfl | hwt
        · exact huF
        · cases hx : listed.getD j false with
          | false => rfl
          | true =>
            have := inv.down j i hx hwt
            rw [huF] at this
            cases this
    have hnext : ∀ v w', C w' → St w w' → (R.getD i fun _ _ => True) v w' → RInv ops C a0 R (listed.setIfInBounds i true) (a.put o.dst v) w' := by
      intro v w' hC hSt hT
      have hg : ∀ j, j ≠ i → (listed.setIfInBounds i true).getD j false = listed.getD j false := fun j hj => getD_set_ne false (Ne.symm hj)
      have hgi : (listed.setIfInBounds i true).getD i false = true := by simp [hlt]
      refine ⟨hC, ?_, ?_, by simp [inv.lsize], fun j oj t hoj hdj hl => ?_, fun t ht => ?_, fun j k hj hw => ?_⟩
      · rw [← inv.defers]; cases o.dst <;> rfl
      · rw [← inv.size]; cases o.dst <;> simp [Act.put]
      · by_cases hji : j = i
        · subst hji
          obtain rfl : oj = o := Option.some.inj (hoj.symm.trans ho)
          rw [hdj, eval_put_eq (by rw [inv.size, hN]; exact hNw _ _ (writesB_of hoj hdj))]
          exact hT
        · rw [hg j hji] at hl
          have e : (a.put o.dst v).eval (.tmp t) = a.eval (.tmp t) := by
            cases hd : o.dst with
            | none => rfl
            | some d =>
              refine eval_put_ne fun he => ?_
              subst he
              exact hji (huniq _ _ _ (writesB_of ho hd) (writesB_of hoj hdj))
          rw [e]
          obtain ⟨lsj, hlsj, _⟩ := relB_spec hB hoj
          exact (hob j oj lsj hoj hlsj).1 _ _ _ (inv.facts j oj t hoj hdj hl) hSt
      · have hne : ¬ writesB ops i t = true := fun hw => by
          have := ht i hw
          rw [hgi] at this
          cases this
        have e : (a.put o.dst v).eval (.tmp t) = a.eval (.tmp t) := by
          cases hd : o.dst with
          | none => rfl
          | some d =>
            refine eval_put_ne fun he => ?_
            subst he
            exact hne (writesB_of ho hd)
        rw [e]
        refine inv.olds t fun j hw => ?_
        by_cases hji : j = i
        · subst hji; exact absurd hw hne
        · rw [← hg j hji]; exact ht j hw
      · by_cases hki : k = i
        · subst hki; exact hgi
        · rw [hg k hki]
          by_cases hji : j = i
          · subst hji; exact hwait k hw
          · rw [hg j hji] at hj; exact inv.down j k hj hw
    have hcount : (listed.setIfInBounds i true).count false ≤ fuel := by
      have hf : false ∈ listed := Array.mem_of_getElem huf
      have h1 := Array.count_pos_iff.2 hf
      rw [Array.setIfInBounds_def, dif_pos hlt, Array.count_set]
      simp only [huf, beq_self_eq_true, if_true]
      have : (true == false) = false := rfl
      simp only [this, Bool.false_eq_true, if_false]
      omega
    have hwant := wanted_of_guard (a := a) (ls := ls) (by rw [inv.size]; exact hN) hNw hguard
    unfold wpOp
    simp only [ho]
    obtain ⟨l1, gd⟩ := ls
    cases gd with
    | none =>
      dsimp only at hwant
      rw [if_pos hwant]
      exact .inl (wp_of_relUpon hG fun v w' h1 h2 h3 => ih _ _ _ hcount (hnext v w' h1 h2 h3))
    | some p =>
      obtain ⟨t, b⟩ := p
      dsimp only at hwant
      dsimp only [obOp] at hG
      by_cases hv : a.eval (.tmp t) = .bool b
      · rw [if_pos (hwant.2 hv)]
        exact .inl (wp_of_relUpon (hG.1 hv) fun v w' h1 h2 h3 => ih _ _ _ hcount (hnext v w' h1 h2 h3))
      · rw [if_neg (fun h => hv (hwant.1 h))]
        exact ih _ _ _ hcount (hnext undef w inv.cls (hrefl w) (hG.2 hv))

def writeAll : List Oper → (Nat → Value) → Array Value → Array Value
  | [], _, t => t
  | o :: os, vs, t => match o.dst with
    | some d => writeAll os vs (t.setIfInBounds d (vs d))
    | none => writeAll os vs t
theorem writeAll_none {vs : Nat → Value} {s : Nat} : ∀ (os : List Oper) (t : Array Value), (∀ o ∈ os, o.dst ≠ some s) → (writeAll os vs t)[s]? = t[s]?
  | [], _, _ => rfl
  | o :: os, t, h => by
    have ih := fun t => writeAll_none (vs := vs) os t fun o' ho' => h o' (List.mem_cons_of_mem _ ho')
    unfold writeAll
    cases hd : o.dst with
    | none => exact ih t
    | some d =>
      dsimp only
      rw [ih]
      exact Array.getElem?_setIfInBounds_ne fun e => h o (List.mem_cons_self ..) (by rw [hd, e])
theorem writeAll_some {vs : Nat → Value} {s : Nat} : ∀ (os : List Oper) (t : Array Value), s < t.size → (t[s]? = some (vs s) ∨ ∃ o ∈ os, o.dst = some s) → (writeAll os vs t)[s]? = some (vs s)
  | [], _, _, h => by
    rcases h with h | ⟨o, ho, _⟩
    · exact h
    · cases ho
  | o :: os, t, hs, h => by
    unfold writeAll
    cases hd : o.dst with
    | none =>
      refine writeAll_some os t hs (h.imp id ?_)
      rintro ⟨o', ho', he⟩
      rcases List.mem_cons.1 ho' with rfl | ho'
      · rw [hd] at he; cases he
      · exact ⟨o', ho', he⟩
    | some d =>
      dsimp only
      refine writeAll_some os _ (by simpa using hs) ?_
      by_cases hds : d = s
      · subst hds
        exact .inl (by simp [hs])
      · rw [Array.getElem?_setIfInBounds_ne hds]
        refine h.imp id ?_
        rintro ⟨o', ho', he⟩
        rcases List.mem_cons.1 ho' with rfl | ho'
        · rw [hd] at he; exact absurd (Option.some.inj he) hds
        · exact ⟨o', ho', he⟩
theorem writeAll_size {vs : Nat → Value} : ∀ (os : List Oper) (t : Array Value), (writeAll os vs t).size = t.size
  | [], _ => rfl
  | o :: os, t => by
    unfold writeAll
    cases o.dst with
    | none => exact writeAll_size os t
    | some d => dsimp only; rw [writeAll_size os]; simp

def endSeen (K : List Rel) (vs : Nat → Value) (w : World) : List (Nat × Nat) → Prop → Prop
  | [], G => G
  | (d, t) :: r, G => (K.getD d fun _ _ => True) (vs t) w → endSeen K vs w r G
theorem endSeen_intro {K : List Rel} {vs : Nat → Value} {w : World} {G : Prop} : ∀ {es : List (Nat × Nat)}, endSeen K vs w es G → (∀ d t, (d, t) ∈ es → (K.getD d fun _ _ => True) (vs t) w) → G
  | [], h, _ => h
  | (d, t) :: _, h, h1 => endSeen_intro (h (h1 d t (List.mem_cons_self ..))) (fun d' t' hm => h1 d' t' (List.mem_cons_of_mem _ hm))
end

/-- **A region that draws its order, told by relations.** lss: what each operation looks at; es: what is wanted at the end: (counted backwards from the last operation, its temporary). -/
theorem wp_region_rel {P : Program} {id : Nat} {Q : Exit → Act → World → Prop} {a : Act} {w : World} {l : List Oper} (C : World → Prop) (St : World → World → Prop) (lss : List Looks) (es : List (Nat × Nat)) (hm : P.follows .mixedOrders = true)
    (hB : (relB l.toArray a.tmps.size lss && es.all fun e => decide (e.1 < l.length) && writesB l.toArray (l.length - 1 - e.1) e.2) = true) (hrefl : ∀ w, St w w) (hC : C w.drew)
    (h : obFrom P C St a (fun K => ∀ (vs : Nat → Value) (w' : World), C w' → endSeen K vs w' es (Q .normal ⟨writeAll l vs a.tmps, a.defers⟩ w')) l lss []) : (Code.region id l.toArray true).wp P Q a w := by
  simp only [Bool.and_eq_true] at hB
  obtain ⟨R, hl, hf, hall⟩ := ob_all l lss [] h
  simp only [List.append_nil] at hf hall
  refine wp_region_any hm (rel_any (N := a.tmps.size) (lss := lss) (R := R) hB.1 rfl (fun i o ls ho hls => hall i o ls (by simpa using ho) hls) (by simpa using hl) hrefl ?_ _ _ _ _ ?_ ?_)
  · intro a' w' inv
    have hk := hf (fun t => a'.eval (.tmp t)) w' inv.cls
    have hq := endSeen_intro hk fun d t hm => by
      have := List.all_eq_true.1 hB.2 _ hm
      simp only [Bool.and_eq_true, decide_eq_true_eq] at this
      obtain ⟨o, ho, hd⟩ := writesB_spec this.2
      have hf := inv.facts _ o t ho hd (by
        have := (Array.getElem?_eq_some_iff.1 ho).1
        simp only [Array.getD_eq_getD_getElem?]
        rw [Array.getElem?_replicate, if_pos this]
        rfl)
      have e : R.reverse.getD d (fun _ _ => True) = R.getD (l.length - 1 - d) (fun _ _ => True) := by
        simp only [List.getD_eq_getElem?_getD]
        rw [List.getElem?_reverse (by omega), hl]
      rw [e]
      exact hf
    have e : (⟨writeAll l (fun t => a'.eval (.tmp t)) a.tmps, a.defers⟩ : Act) = a' := by
      obtain ⟨t', d'⟩ := a'
      have h1 := inv.size
      have h2 := inv.defers
      dsimp only at h1 h2 ⊢
      congr 1
      · apply Array.ext
        · rw [writeAll_size, h1]
        · intro s hs1 hs2
          apply Option.some.inj
          rw [← Array.getElem?_eq_getElem hs1, ← Array.getElem?_eq_getElem hs2]
          have hsa : s < a.tmps.size := by rw [← h1]; exact hs2
          have ev : (⟨t', d'⟩ : Act).eval (.tmp s) = t'[s] := by simp [Act.eval, hs2]
          by_cases hx : ∃ o ∈ l, o.dst = some s
          · rw [writeAll_some l _ hsa (.inr hx), ev, Array.getElem?_eq_getElem hs2]
          · rw [writeAll_none l _ (fun o ho he => hx ⟨o, ho, he⟩)]
            have := inv.olds s (fun j hw => by
              obtain ⟨o, ho, hd⟩ := writesB_spec hw
              exact absurd ⟨o, List.mem_of_getElem? (by simpa using ho), hd⟩ hx)
            rw [ev] at this
            rw [Array.getElem?_eq_getElem hs2, this]
            simp [Act.eval, hsa]
      · exact h2.symm
    rw [e] at hq
    exact hq
  · simp
  · refine ⟨hC, rfl, rfl, by simp, fun j o t _ _ hj => ?_, fun _ _ => rfl, fun j k hj => ?_⟩
    · rw [Array.getD_eq_getD_getElem?, Array.getElem?_replicate] at hj
      split at hj <;> simp at hj
    · rw [Array.getD_eq_getD_getElem?, Array.getElem?_replicate] at hj
      split at hj <;> simp at hj

/-! The worlds beyond U; what no later operation breaks: what a call lays anew. -/
def ClB (U W : World) : Prop := Below U.heap.size U W
def StB (W W' : World) : Prop := Below W.heap.size W W'
theorem ClB.step {U W W' : World} (h : ClB U W) (k : StB W W') : ClB U W' := bchain h k
/-- An operation of one value. -/
theorem ob_det {P : Program} {C : World → Prop} {St : World → World → Prop} {a0 : Act} {fin : List Rel → Prop} {o : Oper} {os : List Oper} {ls : Looks} {lss : List Looks} {known : List Rel} {c : Value}
    (h : ∀ ρ w, Consts ρ → C w → seen a0 known ρ w ls.1 (obOp P C St o ls.2 (fun v _ => v = c) ρ w)) (k : obFrom P C St a0 fin os lss ((fun v _ => v = c) :: known)) : obFrom P C St a0 fin (o :: os) (ls :: lss) known :=
  ⟨_, fun _ _ _ h _ => h, h, k⟩
theorem rel_value {P : Program} {U W : World} {c : Value} {r : Result Next} (h : r = .ok (.value c) W) (hC : ClB U W) : relUpon P (ClB U) StB W (fun v _ => v = c) r := by
  rw [h]; exact ⟨hC, Below.refl _ _, rfl⟩
theorem rel_call {P : Program} {U W : World} {c : Value} {r : Result Next} {f : FuncId} {args : Array Value} (h : r = .ok (.enter f args) W) (hC : ClB U W) (hc : Calls P f args W fun e w' => e = .returned c ∧ Below W.heap.size W w') : relUpon P (ClB U) StB W (fun v _ => v = c) r := by
  rw [h]; exact hc.mono fun e w' ⟨he, hb⟩ => ⟨c, he, hC.step hb, hb, rfl⟩
theorem rel_enter {P : Program} {U W : World} {T : Rel} {r : Result Next} {f : FuncId} {args : Array Value} (h : r = .ok (.enter f args) W) (hc : Calls P f args W fun e w' => ∃ v, e = .returned v ∧ ClB U w' ∧ StB W w' ∧ T v w') : relUpon P (ClB U) StB W T r := by
  rw [h]; exact hc
/-- The law at the worlds beyond the one at hand. -/
theorem wp_region_rel_below {P : Program} {id : Nat} {Q : Exit → Act → World → Prop} {a : Act} {w : World} {l : List Oper} (lss : List Looks) (es : List (Nat × Nat)) (hm : P.follows .mixedOrders = true)
    (hB : (relB l.toArray a.tmps.size lss && es.all fun e => decide (e.1 < l.length) && writesB l.toArray (l.length - 1 - e.1) e.2) = true)
    (h : obFrom P (ClB w) StB a (fun K => ∀ (vs : Nat → Value) (w' : World), ClB w w' → endSeen K vs w' es (Q .normal ⟨writeAll l vs a.tmps, a.defers⟩ w')) l lss []) : (Code.region id l.toArray true).wp P Q a w :=
  wp_region_rel (ClB w) StB lss es hm hB (fun _ => Below.refl _ _) ((Below.refl _ _).drew) h

end Go.Proofs.YtpnnbihofoomeaaDoor

/-
  append onto a row of one's own, whatever is appended (the nil slice, an empty one, too); an own copy of a slice, in a drawn region.
-/
namespace Go.Proofs.YtpnnbihofoomeaaDoor
open Go.RowKit Go.Shelf

theorem run_append_none {P : Program} (w : World) (t ty e : TypeId) (i : TypeInfo) (ht : P.underlying t = some (.slice e)) (hi : P.info? e = some i) (base : Option Addr) (n cap c : Nat) (hn : n ≤ cap) :
    (Builtin.append_ #[t, t] ty #[.slice base n cap, .slice none 0 c]).run P w = .ok (.slice base n cap) w := by
  cases base <;> simp [Builtin.append_, run_underlying ht, sizeOf, typeInfo, hi, Builtin.lenOf, hn, Builtin.firstCells, loadCells, storeCells]
/-- append onto a row of one's own, whatever is appended: the nil slice too. -/
theorem wpList_append_at {P : Program} {w : World} {α : Type} {enc : α → List Value} {ops : Array Oper} {rest : List Oper} {o : Oper} {a : Act} {Q : Exit → Act → World → Prop} (hgd : o.guard = none) (s x : Operand) (t : TypeId)
    (ho : o.op = .call { callee := .builtin .append, args := #[s, x], argTypes := #[t, t] })
    (base : Nat) (e : TypeId) (i : TypeInfo) (z : Value) (size bytes : Nat) (ht : P.underlying t = some (.slice e)) (hi : P.info? e = some i) (hz : i.zero = some z)
    (hsize : i.size = size) (hby : i.bytes = bytes) (hzs : z.cells.size = size) (hsz : 0 < size)
    (v : Value) (n : Nat) (xs : List Value) (hs : a.eval s = v) (hown : w.ownsRow base e size v n xs)
    (A : Option Addr) (m c : Nat) (ys : List α) (hm : m = ys.length) (hx : a.eval x = .slice A m c) (hA : At w size enc A ys) (hk : ∀ x, (enc x).length = size) (h1 : ∀ u ∈ ys.flatMap enc, u.oneCell' = true)
    (h63 : n + m ≤ maxLen) (hbytes : (n + m) * bytes ≤ 140737488355328) (hbase : base ≤ w.heap.size)
    (h : ∀ v' w', w'.ownsRow base e size v' (n + m) (xs ++ ys.flatMap enc) → w.grownBy w' v.ownBlock → wpList P ops Q rest (a.put o.dst v') w') : wpList P ops Q (o :: rest) a w := by
  subst hm
  cases A with
  | none =>
    obtain rfl : ys = [] := by
      rcases hA with h | ⟨b, off, h, _⟩
      · exact h
      · cases h
    have hr : (Builtin.append_ #[t, t] o.type #[v, .slice none 0 c]).run P w = .ok v w := by
      rcases hown.2 with ⟨rfl, _⟩ | ⟨g, cap, cur, rfl, _, _, hn, _⟩
      · exact run_append_none w t _ e i ht hi none 0 0 c (Nat.le_refl _)
      · exact run_append_none w t _ e i ht hi _ n cap c hn
    exact Lib.wpList_append_run w hgd s x t t ho v _ hs hx v w hr (h v w (by simpa using hown) ⟨rfl, rfl, rfl, Nat.le_refl _, fun _ _ _ => rfl⟩)
  | some ad =>
    refine wpList_append_own w hgd s x t ho base e i z size bytes ht hi hz hsize hby hzs hsz v n xs hs hown ad ys.length c (ys.flatMap enc) hx (flat_len hk ys) (fun j u hu => ?_) h1 h63 hbytes hbase (fun v' w' h2 h3 _ => h v' w' h2 h3)
    rcases hA with h | ⟨b, off, h, hrow⟩
    · rw [h] at hu
      simp at hu
    · cases h
      exact flat_cells hk hsz hrow j u hu

theorem stp_one {xs : List Stp} : ∀ u ∈ xs.flatMap Stp.enc, u.oneCell' = true := by
  intro u hu
  obtain ⟨x, hx, hu⟩ := List.mem_flatMap.1 hu
  simp only [Stp.enc, List.mem_cons, List.not_mem_nil, or_false] at hu
  rcases hu with rfl | rfl | rfl <;> rfl
theorem prt_one {xs : List Prt} : ∀ u ∈ xs.flatMap Prt.enc, u.oneCell' = true := by
  intro u hu
  obtain ⟨x, hx, hu⟩ := List.mem_flatMap.1 hu
  simp only [Prt.enc, List.mem_cons, List.not_mem_nil, or_false] at hu
  rcases hu with rfl | rfl <;> rfl
theorem flk_one {xs : List Flk} : ∀ u ∈ xs.flatMap Flk.enc, u.oneCell' = true := by
  intro u hu
  obtain ⟨x, hx, hu⟩ := List.mem_flatMap.1 hu
  simp only [Flk.enc, List.mem_cons, List.not_mem_nil, or_false] at hu
  rcases hu with rfl | rfl | rfl | rfl <;> rfl
theorem sec_one {xs : List Sec} : ∀ u ∈ xs.flatMap Sec.enc, u.oneCell' = true := by
  intro u hu
  obtain ⟨x, hx, hu⟩ := List.mem_flatMap.1 hu
  simp only [Sec.enc, List.mem_cons, List.not_mem_nil, or_false] at hu
  rcases hu with rfl | rfl | rfl | rfl | rfl | rfl | rfl | rfl | rfl | rfl | rfl <;> rfl

theorem ownsV {B e size n : Nat} {W : World} {sv : Value} {xs : List Value} (h : W.ownsRow B e size sv n xs) : ∃ A c, sv = .slice A n c := by
  rcases h.2 with ⟨rfl, rfl⟩ | ⟨g', cap, cur, rfl, _⟩
  · exact ⟨_, _, rfl⟩
  · exact ⟨_, _, rfl⟩

theorem relUpon_value {P : Program} {U W : World} {T : Rel} {c : Value} {r : Result Next} (h : r = .ok (.value c) W) (hC : ClB U W) (hT : T c W) : relUpon P (ClB U) StB W T r := by
  rw [h]
  exact ⟨hC, Below.refl _ _, hT⟩
theorem relUpon_mono {P : Program} {U W : World} {T T' : Rel} {r : Result Next} (h : relUpon P (ClB U) StB W T r) (k : ∀ v w', StB W w' → T v w' → T' v w') : relUpon P (ClB U) StB W T' r := by
  unfold relUpon at *
  split at h
  · exact ⟨h.1, h.2.1, k _ _ h.2.1 h.2.2⟩
  · exact ⟨h.1, h.2.1, k _ _ h.2.1 h.2.2⟩
  · exact h.mono fun e w'' ⟨v, h1, h2, h3, h4⟩ => ⟨v, h1, h2, h3, k _ _ h3 h4⟩
  · exact h.elim

/-! A copy in a drawn region: append([]T{}, x...). -/
/-- A new slice of nothing. -/
def EmptyS (U : World) (e : TypeId) (v : Value) (w : World) : Prop := ∃ g, v = .slice (some ⟨g, 0, none⟩) 0 0 ∧ U.heap.size ≤ g ∧ w.heap[g]? = some (.cells #[] e (0, 0))
theorem EmptyS.step {U W W' : World} {e : TypeId} {v : Value} (h : EmptyS U e v W) (k : StB W W') : EmptyS U e v W' := by
  obtain ⟨g, e1, hb, hg⟩ := h
  exact ⟨g, e1, hb, (k.block g (Array.getElem?_eq_some_iff.1 hg).1).trans hg⟩
theorem rel_emptyS {P : Program} {U W : World} {e : TypeId} {r : Result Next} (h : r = .ok (.value (.slice (some ⟨W.heap.size, 0, none⟩) 0 0)) (W.alloc (.cells #[] e))) (hC : ClB U W) : relUpon P (ClB U) StB W (EmptyS U e) r := by
  rw [h]
  exact ⟨hC.step bself, bself, _, rfl, hC.size, World.alloc_heap_new _ _⟩
theorem run_append_zero {P : Program} (w : World) (t ty e : TypeId) (i : TypeInfo) (ht : P.underlying t = some (.slice e)) (hi : P.info? e = some i) (base A : Option Addr) (c : Nat) :
    (Builtin.append_ #[t, t] ty #[.slice base 0 0, .slice A 0 c]).run P w = .ok (.slice base 0 0) w := by
  cases base <;> cases A <;> simp [Builtin.append_, run_underlying ht, sizeOf, typeInfo, hi, Builtin.lenOf, Builtin.firstCells, loadCells, loadCellsFrom, storeCells]
theorem rel_copy {P : Program} {U W : World} {α : Type} {enc : α → List Value} {ρ : Operand → Value} {dst : Option Tmp} {ty : TypeId} {pos : String} {after : Array Edge} {guard : Option (Nat × Bool)} {s x : Nat} {t e : TypeId} {i : TypeInfo} {z : Value} {size bytes : Nat}
    (h1 : P.underlying t = some (.slice e)) (h2 : P.info? e = some i) (h3 : i.zero = some z) (h4 : i.size = size) (h5 : i.bytes = bytes) (h6 : z.cells.size = size) (h7 : 0 < size)
    (hs : EmptyS U e (ρ (.tmp s)) W) {A : Option Addr} {m c : Nat} {ys : List α} (hm : m = ys.length) (hx : ρ (.tmp x) = .slice A m c) (hA : At W size enc A ys) (hk : ∀ x, (enc x).length = size)
    (b1 : m ≤ maxLen) (b2 : m * bytes ≤ 140737488355328) (hC : ClB U W) :
    relUpon P (ClB U) StB W (fun v w' => w'.ownsRow U.heap.size e size v m (ys.flatMap enc)) ((execOp ρ ⟨dst, .call { callee := .builtin .append, args := #[.tmp s, .tmp x], argTypes := #[t, t] }, ty, pos, after, guard⟩).run P W) := by
  subst hm
  obtain ⟨g, hs, hg, hgg⟩ := hs
  by_cases h0 : ys.length = 0
  · obtain rfl : ys = [] := List.eq_nil_of_length_eq_zero h0
    have hrun := run_append_zero (P := P) W t ty e i h1 h2 (some ⟨g, 0, none⟩) A c
    have hr : (execOp ρ ⟨dst, .call { callee := .builtin .append, args := #[.tmp s, .tmp x], argTypes := #[t, t] }, ty, pos, after, guard⟩).run P W = .ok (.value (.slice (some ⟨g, 0, none⟩) 0 0)) W := by
      simp only [List.length_nil] at hx
      simp [execOp, resolve, invoke, builtin, hs, hx, hrun, Result.andThen]
    rw [hr]
    exact ⟨hC, Below.refl _ _, by simp, .inr ⟨g, 0, #[], rfl, hg, hgg, Nat.le_refl _, by unfold maxLen; omega, by simp, by simp⟩⟩
  · rcases hA with h | ⟨b, off, rfl, hrow⟩
    · rw [h] at h0
      exact absurd rfl h0
    · obtain ⟨v', w', hrun, r1, r2⟩ := run_append_arg_grows (P := P) (w := W) t ty e i z size bytes h1 h2 h3 h4 h5 h6 h7 ⟨g, 0, none⟩ 0 0 [] (by simp) (fun j u h => by simp at h) ⟨b, off, none⟩ ys.length c (ys.flatMap enc) (flat_len hk ys) (fun j u hu => flat_cells hk h7 hrow j u hu) (by omega) (by omega) (by simpa using b2)
      have hb : Below W.heap.size W w' := (Below.refl _ _).grown r2 (Nat.le_refl _) (fun k e => by cases e)
      have hr : (execOp ρ ⟨dst, .call { callee := .builtin .append, args := #[.tmp s, .tmp x], argTypes := #[t, t] }, ty, pos, after, guard⟩).run P W = .ok (.value v') w' := by
        simp [execOp, resolve, invoke, builtin, hs, hx, hrun, Result.andThen]
      rw [hr]
      refine ⟨hC.step hb, hb, ?_⟩
      have := owns_base r1 hC.size
      rwa [Nat.zero_add, List.nil_append] at this
/-- A new slice of one element. -/
def OneS (U : World) (cs : Array Value) (v : Value) (w : World) : Prop := ∃ g, v = .slice (some ⟨g, 0, none⟩) 1 1 ∧ U.heap.size ≤ g ∧ g < w.heap.size ∧ ∀ i, w.cell? ⟨g, i, none⟩ = cs[i]?
theorem OneS.step {U W W' : World} {cs : Array Value} {v : Value} (h : OneS U cs v W) (k : StB W W') : OneS U cs v W' := by
  obtain ⟨g, e, hb, hl, hc⟩ := h
  exact ⟨g, e, hb, Nat.lt_of_lt_of_le hl k.size, fun i => (k.cell (p := ⟨g, i, none⟩) hl).trans (hc i)⟩
theorem rel_one {P : Program} {U W : World} {r : Result Next} {cs : Array Value} {T : TypeId} (h : r = .ok (.value (.slice (some ⟨W.heap.size, 0, none⟩) 1 1)) (W.alloc (.cells cs T))) (hC : ClB U W) : relUpon P (ClB U) StB W (OneS U cs) r := by
  rw [h]
  exact ⟨hC.step bself, bself, _, rfl, hC.size, by simp, fun i => by rw [World.cell?_alloc_at _ _ _ _ rfl]⟩
end Go.Proofs.YtpnnbihofoomeaaDoor

/-
  bytes.Clone; bits.Right of bits that may be, Own, begin.
-/
namespace Go.Proofs.YtpnnbihofoomeaaDoor
open Go.RowKit Go.Shelf

def bEnc (b : Nat) : List Value := [.int .u8 (b : Int)]
theorem info_u8 : ∃ i z, Tryd.prog.info? 5 = some i ∧ i.zero = some z ∧ i.size = 1 ∧ z.cells.size = 1 ∧ i.bytes ≤ 100 := by
  have h : (Tryd.prog.info? 5).any (fun i => (match i.zero with | some z => decide (z.cells.size = 1) | none => false) && decide (i.size = 1) && decide (i.bytes ≤ 100)) = true := by kernel_rfl
  cases hi : Tryd.prog.info? 5 with
  | none => rw [hi] at h; cases h
  | some i =>
    rw [hi] at h
    simp only [Option.any_some, Bool.and_eq_true, decide_eq_true_iff] at h
    cases hz : i.zero with
    | none => rw [hz] at h; simp at h
    | some z =>
      rw [hz] at h
      simp at h
      exact ⟨i, z, rfl, hz, h.1.2, h.1.1, h.2⟩
theorem u8_one {xs : List Nat} : ∀ u ∈ xs.flatMap bEnc, u.oneCell' = true := by
  intro u hu
  obtain ⟨x, hx, hu⟩ := List.mem_flatMap.1 hu
  simp only [bEnc, List.mem_cons, List.not_mem_nil, or_false] at hu
  rw [hu]
  rfl

/-- One element in a new block. -/
theorem at_one {α : Type} {enc : α → List Value} {k : Nat} {W : World} {cs : Array Value} {T : TypeId} {y : α} (h : enc y = cs.toList) : At (W.alloc (.cells cs T)) k enc (some ⟨W.heap.size, 0, none⟩) [y] := by
  refine .inr ⟨_, 0, rfl, by simp, fun j x hx i v hv => ?_⟩
  cases j with
  | zero =>
    obtain rfl : y = x := by simpa using hx
    rw [h] at hv
    rw [World.cell?_alloc_at _ _ _ _ rfl, Nat.zero_mul, Nat.zero_add]
    simpa using hv
  | succ j => simp at hx
theorem heap_grown {W W' : World} {base e size g : Nat} {v : Value} {n : Nat} {xs : List Value} (h : W.ownsRow base e size v n xs) (k : W.grownBy W' v.ownBlock) {c : Array Value} {T : TypeId} (hg : W.heap[g]? = some (.cells c T (0, 0))) (hn : e ≠ T) : W'.heap[g]? = some (.cells c T (0, 0)) := by
  refine (k.block g (Array.getElem?_eq_some_iff.1 hg).1 fun he => ?_).trans hg
  rcases h.2 with ⟨rfl, _⟩ | ⟨g', cap', cur', rfl, _, hg', _⟩
  · cases he
  · obtain rfl : g = g' := by simpa [Value.ownBlock] using he
    rw [hg] at hg'
    cases hg'
    exact hn rfl

set_option maxRecDepth 100000 in
set_option maxHeartbeats 2000000 in
theorem bclone_any (A : Option Addr) (n cap : Nat) (bs : List Nat) (w : World) (hn : n = bs.length) (hA : At w 1 bEnc A bs) (hl : bs.length ≤ 1000) :
    Calls Tryd.prog 26 #[.slice A n cap] w fun e w' => ∃ v, e = .returned v ∧ w'.ownsRow w.heap.size 5 1 v bs.length (bs.flatMap bEnc) ∧ Below w.heap.size w w' := by
  obtain ⟨i0, z0, hi, hz, hs1, hs2, hs3⟩ := info_u8
  have HA := Lib.hid hA
  have HL := Lib.hid hl
  have HN := Lib.hid hn
  have hnil := fun (W : World) (a : Option Addr) (n c : Nat) => Lib.run_equalIn_slice_nil (P := Tryd.prog) W 9999 30 5 a n c 0 0 Tryd.underlying30
  simp only [Nat.reduceAdd] at hnil
  have hnil2 := fun (W : World) (a : Option Addr) (n c : Nat) => Lib.run_eql_slice_nil (P := Tryd.prog) W 30 5 a n c 0 0 Tryd.underlying30
  cases A with
  | none =>
    obtain rfl : bs = [] := by
      rcases hA with h | ⟨b, off, h, _⟩
      · exact h
      · cases h
    subst hn
    clear hA hl hi hz hs1 hs2 hs3
    go_enter Tryd.func26, Tryd.ntmps26
    go_wp2
    go_ret
    exact ⟨_, rfl, World.ownsRow_nil _ _ _ _, Below.refl _ _⟩
  | some ad =>
    have HI := Lib.hid (⟨hi, hz, hs1, hs2, hs3⟩ : _ ∧ _ ∧ _ ∧ _ ∧ _)
    clear hA hl hn hi hz hs1 hs2 hs3
    go_enter Tryd.func26, Tryd.ntmps26
    go_wp2_with (at_builtin; refine Hid.out ?_)
    refine Lib.hid ?_
    refine wpList_append_at (enc := bEnc) rfl _ _ _ rfl w.heap.size 5 i0 z0 1 i0.bytes Tryd.underlying30 HI.out.1 HI.out.2.1 HI.out.2.2.1 rfl HI.out.2.2.2.1 (by decide) (.slice (some ⟨w.heap.size, 0, none⟩) 0 0) 0 [] rfl (World.ownsRow_made w #[] 0 (Nat.le_refl _) (by unfold maxLen; omega) (by simp)) (some ad) n cap bs HN.out rfl (HA.out.below bself) (fun _ => rfl) u8_one (by have := HL.out; have := HN.out; unfold maxLen; omega) ?_ (by simp) ?_
    · have h2 := Nat.mul_le_mul HL.out HI.out.2.2.2.2
      rw [Nat.zero_add, HN.out]
      omega
    intro v' V hr hg
    have hb : Below w.heap.size w V := (bself (w := w)).grown hg (by simp) (fun k e => by
      have e2 : w.heap.size = k := by simpa [Value.ownBlock] using e
      omega)
    rw [Nat.zero_add, List.nil_append, HN.out] at hr
    have HR := Lib.hid (⟨hr, hb⟩ : _ ∧ _)
    clear hr hg hb
    go_wp2
    go_ret
    exact ⟨_, rfl, HR.out.1, HR.out.2⟩

attribute [local go_sem] and7
set_option maxRecDepth 100000 in
set_option maxHeartbeats 2000000 in
theorem bRight_yes (A : Option Addr) (n cap N : Nat) (bs : List Nat) (w : World) (hn : n = bs.length) (hA : At w 1 bEnc A bs) (h8 : bs.length = (N + 7) / 8) (hN : N ≤ 8000) (hb : ∀ b ∈ bs, b < 256) (hlow : N % 8 ≠ 0 → bs.getD (bs.length - 1) 0 % 2 ^ (8 - N % 8) = 0) :
    Calls Tryd.prog 89 #[.agg #[.slice A n cap, .int .i64 N]] w fun e w' => e = .returned (.bool true) ∧ Below w.heap.size w w' := by
  have e1 : IntKind.i64.wrap (-(N : Int)) = -(N : Int) := IntWalk.i64_in _ (by omega)
  have e2 : wrap64 ((N : Int) / 8) = (N : Int) / 8 := by unfold wrap64; omega
  have e3 : wrap64 ((N : Int) / 8 + ((N : Int) % 8 + 7) / 8) = (n : Int) := by clear e1 e2; unfold wrap64; omega
  have E1 := Lib.hid (⟨e1, e2, e3⟩ : _ ∧ _ ∧ _)
  clear e1 e2 e3
  have hneg : ¬ (N : Int) < 0 := by omega
  have HA := Lib.hid (⟨hA, hb, hn⟩ : _ ∧ _ ∧ _)
  by_cases hz : N % 8 = 0
  · have hov : (-(N : Int)) % 8 = 0 := by omega
    clear hA hb hlow h8 hN hn hz
    obtain ⟨e1, e2, e3⟩ := E1.out
    go_enter Tryd.func89, Tryd.ntmps89
    go_upto_region 4 with fail
    go_region
    go_wp2
    go_ret
    exact ⟨rfl, bself.drew⟩
  · have hov : (-(N : Int)) % 8 = ((8 - N % 8 : Nat) : Int) := by omega
    have hn0 : 0 < n := by omega
    obtain ⟨b, off, ea, hrow⟩ := hA.get (j := n - 1) (by omega)
    subst ea
    obtain ⟨x, hx⟩ : ∃ x, x = bs.getD (bs.length - 1) 0 := ⟨_, rfl⟩
    have hxg : bs[n - 1]? = some x := by
      rw [hx, hn, List.getD_eq_getElem?_getD, List.getElem?_eq_getElem (by omega)]
      rfl
    have hx256 := hb x (List.mem_of_getElem? hxg)
    have hcell : w.cell? ⟨b, off + (n - 1), none⟩ = some (.int .u8 (x : Int)) := by simpa using hrow.2 (n - 1) x hxg 0 _ rfl
    obtain ⟨k, hk⟩ : ∃ k, k = 8 - N % 8 := ⟨_, rfl⟩
    have hand := and_u8 (x := x) (k := k) hx256 (by omega)
    rw [← hx, ← hk] at hlow
    rw [hlow hz] at hand
    rw [← hk] at hov
    have hk0n : ¬ k = 0 := by omega
    have hk8 : k ≤ 8 := by omega
    rw [Int.one_mul] at hand
    have hn1 : IntKind.i64.wrap ((n : Int) - 1) = ((n - 1 : Nat) : Int) := by rw [IntWalk.i64_in _ (by omega)]; omega
    have hn2 : ((n - 1 : Nat) : Int) < (n : Int) := by omega
    have lb := hrow.1
    clear hA hb hlow h8 hN hn hz hrow hx hxg hk hx256
    obtain ⟨e1, e2, e3⟩ := E1.out
    go_enter Tryd.func89, Tryd.ntmps89
    go_upto_region 4 with fail
    obtain ⟨U, hU⟩ : ∃ U, U = w.alloc (.cells #[.slice (some ⟨b, off, none⟩) n cap, .int .i64 (N : Nat)] 54) := ⟨_, rfl⟩
    have hUb : Below w.heap.size w U := by rw [hU]; exact bself
    have cs : ∀ V', ClB U V' → V'.cell? ⟨w.heap.size, 0, none⟩ = some (.slice (some ⟨b, off, none⟩) n cap) := fun V' h => (h.cell (p := ⟨w.heap.size, 0, none⟩) (by rw [hU]; simp)).trans (by rw [hU]; simp [go_sem])
    have cb : ∀ V', ClB U V' → V'.cell? ⟨b, off + (n - 1), none⟩ = some (.int .u8 (x : Nat)) := fun V' h => ((bchain hUb h).cell (p := ⟨b, off + (n - 1), none⟩) lb).trans hcell
    rw [← hU]
    have HU := Lib.hid hUb
    clear hU hUb
    refine wp_region_rel_below [([(3, none)], none), ([(26, some 0)], none), ([(27, some 0)], none), ([(1, none), (28, some 0)], some (28, false)), ([(29, some 0), (28, some 1)], some (28, false)), ([(1, none), (28, some 2)], some (28, false)), ([(31, some 0), (28, some 3)], some (28, false)), ([(32, some 0), (28, some 4)], some (28, false)), ([(33, some 0), (28, some 5)], some (28, false)), ([(30, some 4), (34, some 0), (28, some 6)], some (28, false)), ([(35, some 0), (28, some 7)], some (28, false)), ([(3, none), (28, some 8)], some (28, false)), ([(37, some 0), (28, some 9)], some (28, false)), ([(38, some 0), (28, some 10)], some (28, false)), ([(36, some 3), (39, some 0), (28, some 11)], some (28, false)), ([(40, some 0), (28, some 12)], some (28, false)), ([(28, some 13), (41, some 0)], none), ([(42, some 0)], none)] [(0, 2)] (by kernel_rfl) (by kernel_rfl) ?_
    refine ob_det (c := .int .i64 (k : Nat)) ?_ ?_
    · intro ρ W hk hC
      simp only [seen, obOp]
      rintro h3
      replace h3 : ρ (.tmp 3) = .int .i64 (k : Nat) := h3.trans rfl
      exact rel_value (by simp [go_sem, h3]) hC
    refine ob_det (c := .bool false) ?_ ?_
    · intro ρ W hk hC
      simp only [seen, obOp, List.getD_cons_zero]
      rintro h26
      exact rel_value (by simp [go_sem, h26, hk.const, hk0n]) hC
    refine ob_det (c := .bool false) ?_ ?_
    · intro ρ W hk hC
      simp only [seen, obOp, List.getD_cons_zero]
      rintro h27
      exact rel_value (by simp [go_sem, h27]) hC
    refine ob_det (c := .pointer (some ⟨w.heap.size, 0, none⟩)) ?_ ?_
    · intro ρ W hk hC
      simp only [seen, obOp, List.getD_cons_zero]
      rintro h1 h28
      replace h1 : ρ (.tmp 1) = .pointer (some ⟨w.heap.size, 0, none⟩) := h1.trans rfl
      refine ⟨fun _ => ?_, fun hn => absurd h28 hn⟩
      exact rel_value (by simp [go_sem, h1]) hC
    refine ob_det (c := .slice (some ⟨b, off, none⟩) n cap) ?_ ?_
    · intro ρ W hk hC
      simp only [seen, obOp, List.getD_cons_zero, List.getD_cons_succ]
      rintro h29 h28
      refine ⟨fun _ => ?_, fun hn => absurd h28 hn⟩
      exact rel_value (by simp [go_sem, h29, cs W hC]) hC
    refine ob_det (c := .pointer (some ⟨w.heap.size, 0, none⟩)) ?_ ?_
    · intro ρ W hk hC
      simp only [seen, obOp, List.getD_cons_zero, List.getD_cons_succ]
      rintro h1 h28
      replace h1 : ρ (.tmp 1) = .pointer (some ⟨w.heap.size, 0, none⟩) := h1.trans rfl
      refine ⟨fun _ => ?_, fun hn => absurd h28 hn⟩
      exact rel_value (by simp [go_sem, h1]) hC
    refine ob_det (c := .slice (some ⟨b, off, none⟩) n cap) ?_ ?_
    · intro ρ W hk hC
      simp only [seen, obOp, List.getD_cons_zero, List.getD_cons_succ]
      rintro h31 h28
      refine ⟨fun _ => ?_, fun hn => absurd h28 hn⟩
      exact rel_value (by simp [go_sem, h31, cs W hC]) hC
    refine ob_det (c := .int .i64 (n : Nat)) ?_ ?_
    · intro ρ W hk hC
      simp only [seen, obOp, List.getD_cons_zero, List.getD_cons_succ]
      rintro h32 h28
      refine ⟨fun _ => ?_, fun hn => absurd h28 hn⟩
      exact rel_value (by simp [go_sem, h32]) hC
    refine ob_det (c := .int .i64 (n - 1 : Nat)) ?_ ?_
    · intro ρ W hk hC
      simp only [seen, obOp, List.getD_cons_zero, List.getD_cons_succ]
      rintro h33 h28
      refine ⟨fun _ => ?_, fun hn => absurd h28 hn⟩
      exact rel_value (by simp [go_sem, h33, hk.const, hn1]) hC
    refine ob_det (c := .pointer (some ⟨b, off + (n - 1), none⟩)) ?_ ?_
    · intro ρ W hk hC
      simp only [seen, obOp, List.getD_cons_zero, List.getD_cons_succ]
      rintro h30 h34 h28
      refine ⟨fun _ => ?_, fun hn => absurd h28 hn⟩
      exact rel_value (by simp [go_sem, h30, h34, hn2]) hC
    refine ob_det (c := .int .u8 (x : Nat)) ?_ ?_
    · intro ρ W hk hC
      simp only [seen, obOp, List.getD_cons_zero, List.getD_cons_succ]
      rintro h35 h28
      refine ⟨fun _ => ?_, fun hn => absurd h28 hn⟩
      exact rel_value (by simp [go_sem, h35, cb W hC]) hC
    refine ob_det (c := .int .i64 (k : Nat)) ?_ ?_
    · intro ρ W hk hC
      simp only [seen, obOp, List.getD_cons_zero, List.getD_cons_succ]
      rintro h3 h28
      replace h3 : ρ (.tmp 3) = .int .i64 (k : Nat) := h3.trans rfl
      refine ⟨fun _ => ?_, fun hn => absurd h28 hn⟩
      exact rel_value (by simp [go_sem, h3]) hC
    refine ob_det (c := .int .u8 (IntKind.u8.wrap (1 * 2 ^ k))) ?_ ?_
    · intro ρ W hk hC
      simp only [seen, obOp, List.getD_cons_zero, List.getD_cons_succ]
      rintro h37 h28
      refine ⟨fun _ => ?_, fun hn => absurd h28 hn⟩
      exact rel_value (by simp [go_sem, h37, hk.const]) hC
    refine ob_det (c := .int .u8 (IntKind.u8.wrap (IntKind.u8.wrap (1 * 2 ^ k) - 1))) ?_ ?_
    · intro ρ W hk hC
      simp only [seen, obOp, List.getD_cons_zero, List.getD_cons_succ]
      rintro h38 h28
      refine ⟨fun _ => ?_, fun hn => absurd h28 hn⟩
      exact rel_value (by simp [go_sem, h38, hk.const]) hC
    refine ob_det (c := .int .u8 0) ?_ ?_
    · intro ρ W hk hC
      simp only [seen, obOp, List.getD_cons_zero, List.getD_cons_succ]
      rintro h36 h39 h28
      refine ⟨fun _ => ?_, fun hn => absurd h28 hn⟩
      exact rel_value (by simp [go_sem, h36, h39, hand]) hC
    refine ob_det (c := .bool true) ?_ ?_
    · intro ρ W hk hC
      simp only [seen, obOp, List.getD_cons_zero, List.getD_cons_succ]
      rintro h40 h28
      refine ⟨fun _ => ?_, fun hn => absurd h28 hn⟩
      exact rel_value (by simp [go_sem, h40, hk.const]) hC
    refine ob_det (c := .bool true) ?_ ?_
    · intro ρ W hk hC
      simp only [seen, obOp, List.getD_cons_zero, List.getD_cons_succ]
      rintro h28 h41
      exact rel_value (by simp [go_sem, h28, h41, hk.const]) hC
    refine ob_det (c := .bool true) ?_ ?_
    · intro ρ W hk hC
      simp only [seen, obOp, List.getD_cons_zero]
      rintro h42
      exact rel_value (by simp [go_sem, h42]) hC
    intro vs w5 hC5
    simp only [endSeen, List.getD_cons_zero]
    intro h2
    simp only [writeAll, List.setIfInBounds_toArray, List.set_cons_zero, List.set_cons_succ, h2]
    go_wp2
    go_ret
    exact ⟨rfl, bchain HU.out hC5⟩
end Go.Proofs.YtpnnbihofoomeaaDoor

/-
  bits.Own, begin, Of; high.
-/
namespace Go.Proofs.YtpnnbihofoomeaaDoor
open Go.RowKit Go.Shelf

/-- Bits that may be: so many bytes, the last one's rest none. -/
def BitsOk (bs : List Nat) (N : Nat) : Prop := bs.length = (N + 7) / 8 ∧ N ≤ 8000 ∧ (∀ b ∈ bs, b < 256) ∧ (N % 8 ≠ 0 → bs.getD (bs.length - 1) 0 % 2 ^ (8 - N % 8) = 0)
theorem bitsOk_pack (bl : List Bool) (h : bl.length ≤ 8000) : BitsOk (pack bl) bl.length := ⟨pack_length bl, h, pack_lt bl, pack_low bl⟩
theorem bitsOk_bytes (bs : List Nat) (h : bs.length ≤ 1000) (hb : ∀ b ∈ bs, b < 256) : BitsOk bs (8 * bs.length) := ⟨by omega, by omega, hb, fun h => by omega⟩

set_option maxRecDepth 100000 in
set_option maxHeartbeats 2000000 in
theorem bOwn_any (A : Option Addr) (n cap : Nat) (N : Int) (bs : List Nat) (w : World) (hn : n = bs.length) (hA : At w 1 bEnc A bs) (hl : bs.length ≤ 1000) :
    Calls Tryd.prog 90 #[.agg #[.slice A n cap, .int .i64 N]] w fun e w' => ∃ v, e = .returned (.agg #[v, .int .i64 N]) ∧ w'.ownsRow w.heap.size 5 1 v bs.length (bs.flatMap bEnc) ∧ Below w.heap.size w w' := by
  have HC := Lib.hid (fun W (h : Below w.heap.size w W) => bclone_any A n cap bs W hn (hA.below h) hl)
  clear hn hA hl
  go_enter Tryd.func90, Tryd.ntmps90
  go_wp2_with fail
  (with_reducible refine (HC.out _ (bchain bself bself)).mono ?_)
  rintro e w1 ⟨v, rfl, ho, b1⟩
  obtain ⟨A', c', rfl⟩ := ownsV ho
  obtain ⟨c1, f1, l1⟩ := bcell b1
  have y0 := l1 w.heap.size (by simp <;> omega)
  have y1 := l1 (w.heap.size + 1) (by simp)
  have HO := Lib.hid (⟨ho, b1⟩ : _ ∧ _)
  have x0 : w1.cell? ⟨w.heap.size, 0, none⟩ = some (.slice A n cap) := (c1 _ 0 (by simp <;> omega)).trans (by simp [go_sem])
  have x1 : w1.cell? ⟨w.heap.size, 1, none⟩ = some (.int .i64 N) := (c1 _ 1 (by simp <;> omega)).trans (by simp [go_sem])
  have x2 : w1.cell? ⟨w.heap.size + 1, 0, none⟩ = some (.slice none 0 0) := (c1 _ 0 (by simp)).trans (by simp [go_sem])
  have x3 : w1.cell? ⟨w.heap.size + 1, 1, none⟩ = some (.int .i64 0) := (c1 _ 1 (by simp)).trans (by simp [go_sem])
  have z0 : ∀ o, w1.frozen? ⟨w.heap.size, o, none⟩ = false := fun o => (f1 _ o (by simp <;> omega)).trans (by simp [go_sem])
  have z1 : ∀ o, w1.frozen? ⟨w.heap.size + 1, o, none⟩ = false := fun o => (f1 _ o (by simp)).trans (by simp [go_sem])
  clear ho b1 c1 f1 l1
  go_wp2
  refine bodyPost_ret (v := .agg #[.slice A' bs.length c', .int .i64 N]) (by simp [results, Tryd.results90, go_sem, *]) rfl ⟨_, rfl, ?own, ?bel⟩
  case own =>
    refine owns_base (base := w.heap.size + 2) ?_ (by omega)
    have h := HO.out.1
    simp only [World.size_alloc] at h
    refine ownsRow_setCell_below (ownsRow_setCell_below (ownsRow_setCell_below h ?_ _) ?_ _) ?_ _ <;> (dsimp only; omega)
  case bel =>
    repeat refine Below.setCell ?_ (by dsimp only; omega) _
    exact bchain (bchain bself bself) HO.out.2

set_option maxRecDepth 100000 in
set_option maxHeartbeats 2000000 in
theorem bBegin_any (A : Option Addr) (n cap N : Nat) (bs : List Nat) (w : World) (hn : n = bs.length) (hA : At w 1 bEnc A bs) (hok : BitsOk bs N) :
    Calls Tryd.prog 60 #[.agg #[.slice A n cap, .int .i64 N]] w fun e w' => ∃ v, e = .returned (.tuple #[.agg #[v, .int .i64 N], .bool true]) ∧ w'.ownsRow w.heap.size 5 1 v bs.length (bs.flatMap bEnc) ∧ Below w.heap.size w w' := by
  have HR := Lib.hid (fun W (h : Below w.heap.size w W) => bRight_yes A n cap N bs W hn (hA.below h) hok.1 hok.2.1 hok.2.2.1 hok.2.2.2)
  have HC := Lib.hid (fun W (h : Below w.heap.size w W) => bOwn_any A n cap N bs W hn (hA.below h) (by have := hok.1; have := hok.2.1; omega))
  clear hn hA hok
  go_enter Tryd.func60, Tryd.ntmps60
  go_wp2_with fail
  (with_reducible refine (HR.out _ (bchain bself bself)).mono ?_)
  rintro e w1 ⟨rfl, b1⟩
  obtain ⟨c1, f1, l1⟩ := bcell b1
  have y0 := l1 w.heap.size (by simp <;> omega)
  have y1 := l1 (w.heap.size + 1) (by simp)
  have x0 : w1.cell? ⟨w.heap.size, 0, none⟩ = some (.slice A n cap) := (c1 _ 0 (by simp <;> omega)).trans (by simp [go_sem])
  have x1 : w1.cell? ⟨w.heap.size, 1, none⟩ = some (.int .i64 N) := (c1 _ 1 (by simp <;> omega)).trans (by simp [go_sem])
  have x2 : w1.cell? ⟨w.heap.size + 1, 0, none⟩ = some (.slice none 0 0) := (c1 _ 0 (by simp)).trans (by simp [go_sem])
  have x3 : w1.cell? ⟨w.heap.size + 1, 1, none⟩ = some (.int .i64 0) := (c1 _ 1 (by simp)).trans (by simp [go_sem])
  have z1 : ∀ o, w1.frozen? ⟨w.heap.size + 1, o, none⟩ = false := fun o => (f1 _ o (by simp)).trans (by simp [go_sem])
  have hs1 : w.heap.size + 2 ≤ w1.heap.size := by omega
  have HB := Lib.hid (bchain (bchain bself bself) b1 : Below w.heap.size w w1)
  clear b1 c1 f1 l1
  go_wp2_with fail
  (with_reducible refine (HC.out _ HB.out).mono ?_)
  rintro e w2 ⟨v, rfl, ho, b2⟩
  obtain ⟨A', c', rfl⟩ := ownsV ho
  obtain ⟨c2, f2, l2⟩ := bcell b2
  have y2 := l2 (w.heap.size + 1) y1
  have q2 := (c2 (w.heap.size + 1) 0 y1).trans x2
  have q3 := (c2 (w.heap.size + 1) 1 y1).trans x3
  have q4 : ∀ o, w2.frozen? ⟨w.heap.size + 1, o, none⟩ = false := fun o => (f2 _ o y1).trans (z1 o)
  have HO := Lib.hid (⟨ho, bchain HB.out b2⟩ : _ ∧ _)
  clear ho b2 c2 f2 l2 x0 x1 x2 x3 z1
  go_wp2
  refine bodyPost_ret (v := .tuple #[.agg #[.slice A' bs.length c', .int .i64 N], .bool true]) (by simp [results, Tryd.results60, go_sem, *]) rfl ⟨_, rfl, ?own, ?bel⟩
  case own =>
    refine owns_base (base := w1.heap.size) ?_ (by omega)
    refine ownsRow_setCell_below (ownsRow_setCell_below HO.out.1 ?_ _) ?_ _ <;> (dsimp only; omega)
  case bel =>
    repeat refine Below.setCell ?_ (by dsimp only; omega) _
    exact HO.out.2

set_option maxRecDepth 100000 in
set_option maxHeartbeats 2000000 in
theorem bOf_any (A : Option Addr) (n cap : Nat) (bs : List Nat) (w : World) (hn : n = bs.length) (hA : At w 1 bEnc A bs) (hl : bs.length ≤ 1000) :
    Calls Tryd.prog 32 #[.slice A n cap] w fun e w' => ∃ v, e = .returned (.agg #[v, .int .i64 (8 * bs.length : Nat)]) ∧ w'.ownsRow w.heap.size 5 1 v bs.length (bs.flatMap bEnc) ∧ Below w.heap.size w w' := by
  have HC := Lib.hid (fun W (h : Below w.heap.size w W) => bclone_any A n cap bs W hn (hA.below h) hl)
  have e1 : IntKind.i64.wrap ((n : Int) * 8) = ((8 * bs.length : Nat) : Int) := by rw [hn, IntWalk.i64_in _ (by omega)]; omega
  clear hn hA hl
  go_enter Tryd.func32, Tryd.ntmps32
  go_wp2_with fail
  (with_reducible refine (HC.out _ bself).mono ?_)
  rintro e w1 ⟨v, rfl, ho, b1⟩
  obtain ⟨A', c', rfl⟩ := ownsV ho
  obtain ⟨c1, f1, l1⟩ := bcell b1
  have y0 := l1 w.heap.size (by simp)
  have x0 : w1.cell? ⟨w.heap.size, 0, none⟩ = some (.slice none 0 0) := (c1 _ 0 (by simp)).trans (by simp [go_sem])
  have x1 : w1.cell? ⟨w.heap.size, 1, none⟩ = some (.int .i64 0) := (c1 _ 1 (by simp)).trans (by simp [go_sem])
  have z0 : ∀ o, w1.frozen? ⟨w.heap.size, o, none⟩ = false := fun o => (f1 _ o (by simp)).trans (by simp [go_sem])
  have HO := Lib.hid (⟨ho, b1⟩ : _ ∧ _)
  clear ho b1 c1 f1 l1
  go_wp2
  refine bodyPost_ret (v := .agg #[.slice A' bs.length c', .int .i64 (8 * bs.length : Nat)]) (by simp [results, Tryd.results32, go_sem, *]) rfl ⟨_, rfl, ?own, ?bel⟩
  case own =>
    refine owns_base (base := w.heap.size + 1) ?_ (by omega)
    have h := HO.out.1
    simp only [World.size_alloc] at h
    refine ownsRow_setCell_below (ownsRow_setCell_below h ?_ _) ?_ _ <;> (dsimp only; omega)
  case bel =>
    repeat refine Below.setCell ?_ (by dsimp only; omega) _
    exact bchain bself HO.out.2

theorem high_fn (n wd : Int) (w : World) :
    Calls Tryd.prog 61 #[.int .i64 n, .int .i64 wd] w fun e w' => e = .returned (.func (.func 91) #[] #[.pointer (some ⟨w.heap.size + 1, 0, none⟩), .pointer (some ⟨w.heap.size, 0, none⟩)]) ∧ w' = (w.alloc (.cells #[.int .i64 n] 3)).alloc (.cells #[.int .i64 wd] 3) := by
  go_enter Tryd.func61, Tryd.ntmps61
  go_wp2
  go_ret
  exact ⟨rfl, rfl⟩
end Go.Proofs.YtpnnbihofoomeaaDoor

/-
  A range over a function whose rounds all go on: the iterator may write variables of its own (the blocks of C), the body its own (the blocks of A, rows of E from n on); the body knows that what comes is the next of xs.
-/
namespace Go.Proofs.YtpnnbihofoomeaaDoor
open Go.RowKit Go.Shelf

theorem WritesE.mono {A A' : Nat → Prop} {E E' : TypeId → Prop} {n n' : Nat} {X Y : World} (h : WritesE A E n X Y) (hA : ∀ b, A b → A' b) (hE : ∀ e, E e → E' e) (hn : n' ≤ n) : WritesE A' E' n' X Y :=
  ⟨h.os, h.tape, h.output, h.size, fun b o ho ha he => h.same b o ho (fun k => ha (hA b k)) (fun ⟨k1, c, e, r, k2, k3⟩ => he ⟨by omega, c, e, r, k2, hE e k3⟩)⟩
theorem sameCells_put {W : World} {l : Nat} {r : Loop} {o' : Obj} (h : W.heap[l]? = some (.loop r)) : SameCells W (W.putObj l o') := by
  intro b o ho hc
  refine (World.putObj_heap_other (fun e => ?_)).trans ho
  subst e
  rw [h] at ho
  cases ho
  cases hc
theorem writesE_put {A : Nat → Prop} {E : TypeId → Prop} {n l : Nat} {w W : World} {o' : Obj} (h : WritesE A E n w W) (hl : w.heap.size ≤ l) : WritesE A E n w (W.putObj l o') :=
  ⟨h.os, h.tape, h.output, by simpa [World.putObj] using h.size, fun b o ho ha he => (World.putObj_heap_other (by have := (Array.getElem?_eq_some_iff.1 ho).1; omega)).trans (h.same b o ho ha he)⟩
/-- A step of the iterator's own: it may write the blocks of C, which stay rows of what they are rows of. -/
structure ItW (C : Nat → Prop) (X Y : World) : Prop where
  w : WritesE C NoT 0 X Y
  row : ∀ b e, rowOf X b e → rowOf Y b e
theorem ItW.set {C : Nat → Prop} {X : World} {p : Addr} {u : Value} (hp : C p.block) : ItW C X (X.setCell p u) := ⟨WritesE.setCell (WritesE.refl _ _ _ _) hp _, fun _ _ h => h.set _ _⟩
theorem ItW.of_below {C : Nat → Prop} {X Y : World} (h : Below X.heap.size X Y) : ItW C X Y := ⟨.of_below h, fun _ _ k => k.keep (h.block _ k.lt)⟩
/-- What the iterator owes: it tells xs, one by one, whatever the rounds are. -/
def SeqAll {α : Type} (P : Program) (gf : Nat) (lb : Array Value) (encs : α → Array Value) (xs : List α) (A : Nat → Prop) (E : TypeId → Prop) (n : Nat) (C : Nat → Prop) (w : World) : Prop :=
  ∀ (l : Nat) (J : List α → World → Prop) (W : World), Below w.heap.size w W → (∀ s X Y, J s X → ItW C X Y → J s Y) →
    (∀ pre x W1, J pre W1 → pre ++ [x] <+: xs → YieldAt Fence.wide 3 P l (encs x) W1 fun e W' => e = .returned (.bool true) ∧ J (pre ++ [x]) W' ∧ KeepsE A E n W1 W') →
    J [] W → CallsIn Fence.wide 4 P gf (#[.func (.yield l) #[] #[]] ++ lb) W fun e W' => (∃ v, e = .returned v) ∧ J xs W'
/-- How a round is left. -/
def roundPostM {α : Type} (A : Nat → Prop) (E : TypeId → Prop) (n : Nat) (I : List α → World → Prop) (xs : List α) (W : World) : Exit → Act → World → Prop
  | .normal, _, W' => WritesE A E n W W' ∧ I xs W'
  | _, _, _ => False

theorem wp_range_m {P : Program} {α : Type} {g : Operand} {ps : Array Tmp} {assign body : Code} {Q : Exit → Act → World → Prop} {a : Act} {w : World}
    {gf : Nat} {lb : Array Value} (hg : a.eval g = .func (.func gf) #[] lb) (eg : ∀ args w, (callFunc gf args).run P w = .ok (.enter gf args) w)
    {encs : α → Array Value} {xs : List α} (A : Nat → Prop) (E : TypeId → Prop) (n : Nat) (C : Nat → Prop) (hA : ∀ b, A b → b < w.heap.size) (hC : ∀ b, C b → b < w.heap.size)
    (hseq : SeqAll P gf lb encs xs A E n C w) (hps : ∀ x, (encs x).size = ps.size)
    (I : List α → World → Prop) (hI : ∀ s X Y, I s X → SameCells X Y → X.heap.size ≤ Y.heap.size → I s Y) (hIC : ∀ s X Y, I s X → ItW C X Y → I s Y) (h0 : I [] w)
    (Ax : α → Act → World → Prop) (hAx : ∀ x a' W W', Ax x a' W → SameCells W W' → W.heap.size ≤ W'.heap.size → Ax x a' W')
    (hassign : ∀ (l : Nat) (x : α) (W : World) (K : Act → World → Prop), (∀ a' W', Below W.heap.size W W' → Ax x a' W' → K a' W') →
      assign.wpIn (Fence.wide.inRound l) 3 P (Exit.then K (fun _ _ _ => False)) { tmps := (ps.zip (encs x)).foldl (fun t (p, v) => t.setIfInBounds p v) a.tmps, defers := [] } W)
    (hbody : ∀ (l : Nat) (pre : List α) (x : α) (a' : Act) (W : World), WritesE (fun b => A b ∨ C b) E n w W → I pre W → Ax x a' W → pre ++ [x] <+: xs →
      body.wpIn (Fence.wide.inRound l) 3 P (roundPostM A E n I (pre ++ [x]) W) a' W)
    (hdone : ∀ (D : Nat) (W : World), w.heap.size ≤ D → WritesE (fun b => A b ∨ C b) E n w W → I xs W → W.heap[D]? = some (.deferred (some [])) → Q .normal { a with defers := { target := .collected D, args := #[] } :: a.defers } W) :
    (Code.rangeFunc g ps assign body).wp P Q a w := by
  refine (wpIn_wide (n := 5)).1 (wpIn_rangeFunc fun fn hfn => ?_)
  obtain ⟨rc, hrc⟩ : ∃ rc : LoopState → Loop, rc = fun st => { state := st, pending := none, fn := fn, tmps := a.tmps, params := ps, assign := assign, body := body, defers := w.heap.size } := ⟨_, rfl⟩
  obtain ⟨W1, hW1⟩ : ∃ W1, W1 = (w.alloc (.deferred (some []))).alloc (.loop (rc .ready)) := ⟨_, rfl⟩
  obtain ⟨l, hl⟩ : ∃ l, l = w.heap.size + 1 := ⟨_, rfl⟩
  have hb1 : Below w.heap.size w W1 := by rw [hW1]; exact bchain bself bself
  have hs1 : SameCells w W1 := fun b o ho _ => (hb1.block b (Array.getElem?_eq_some_iff.1 ho).1).trans ho
  have r1 : W1.heap[l]? = some (.loop (rc .ready)) := by
    rw [hW1, hl]
    have := World.alloc_heap_new (w.alloc (.deferred (some []))) (.loop (rc .ready))
    rwa [World.size_alloc] at this
  have r2 : W1.heap[w.heap.size]? = some (.deferred (some [])) := by
    rw [hW1]
    exact (Below.heap_alloc _ _ _ (by simp)).trans (World.alloc_heap_new w _)
  refine ⟨l, [{ target := .collected w.heap.size, args := #[] }], W1, { target := .fn (.func gf) lb, args := #[.func (.yield l) #[] #[]] }, W1, gf, #[.func (.yield l) #[] #[]] ++ lb, W1, ?_, ?_, fun f' _ => trivial, ?_, fun _ => by decide, ?_⟩
  · rw [hW1, hrc, hl]
    exact run_enterLoop_outer _ _ _ _ _
  · simp only [resolve, hg]
    simp [go_sem]
  · simp [invoke, go_sem, eg]
  refine (hseq l (fun pre W => I pre W ∧ WritesE (fun b => A b ∨ C b) E n w W ∧ W.heap[l]? = some (.loop (rc .ready)) ∧ W.heap[w.heap.size]? = some (.deferred (some []))) W1 hb1 ?_ ?_ ⟨hI _ _ _ h0 hs1 hb1.size, .of_below hb1, r1, r2⟩).mono ?_
  · rintro s X Y ⟨hi, hw, h1, h2⟩ hx
    have keep : ∀ b o, w.heap.size ≤ b → X.heap[b]? = some o → Y.heap[b]? = some o := fun b o hb ho => hx.w.same b o ho (fun k => by have := hC b k; omega) (fun ⟨_, _, _, _, _, k⟩ => k)
    exact ⟨hIC s X Y hi hx, hw.trans ⟨hx.w.os, hx.w.tape, hx.w.output, hx.w.size, fun b o ho ha _ => hx.w.same b o ho (fun k => ha (.inr k)) (fun ⟨_, _, _, _, _, k⟩ => k)⟩, keep _ _ (by omega) h1, keep _ _ (Nat.le_refl _) h2⟩
  · rintro pre x W ⟨hi, hw, h1, h2⟩ hx
    have hy := run_yield (P := P) (args := encs x) h1 (by rw [hrc]; exact hps x)
    rw [hrc] at hy
    refine ⟨fn, _, assign, body, hy, roundIn_of_wpIn hfn (hassign l x W _ fun a' Wa hba hax => ?_)⟩
    have k1 := (hba.block l (Array.getElem?_eq_some_iff.1 h1).1).trans h1
    have k2 := (hba.block w.heap.size (Array.getElem?_eq_some_iff.1 h2).1).trans h2
    have hsa : SameCells W Wa := fun b o ho _ => (hba.block b (Array.getElem?_eq_some_iff.1 ho).1).trans ho
    refine ⟨_, run_beginRound k1 (by rw [hrc]), ?_⟩
    obtain ⟨Wb, hWb⟩ : ∃ Wb, Wb = Wa.putObj l (.loop { rc .ready with state := .busy }) := ⟨_, rfl⟩
    rw [← hWb]
    have hsb : SameCells Wa Wb := by rw [hWb]; exact sameCells_put k1
    have hzb : Wa.heap.size ≤ Wb.heap.size := by rw [hWb]; simp [World.putObj]
    have m1 : Wb.heap[l]? = some (.loop { rc .ready with state := .busy }) := by rw [hWb]; exact World.putObj_heap_same (Array.getElem?_eq_some_iff.1 k1).1
    have m2 : Wb.heap[w.heap.size]? = some (.deferred (some [])) := by rw [hWb]; exact (World.putObj_heap_other (by omega)).trans k2
    have hwb : WritesE (fun b => A b ∨ C b) E n w Wb := by rw [hWb]; exact writesE_put (hw.trans (.of_below hba)) (by omega)
    refine wpIn_mono (hbody l pre x a' Wb hwb (hI _ _ _ (hI _ _ _ hi hsa hba.size) hsb hzb) (hAx _ _ _ _ hax hsb hzb) hx) ?_
    intro e a3 W3 hp
    cases e with
    | normal =>
      obtain ⟨h3, hi3⟩ := hp
      have keep : ∀ b o, w.heap.size ≤ b → Wb.heap[b]? = some o → o.isCells = false → W3.heap[b]? = some o := fun b o hb ho hc => h3.same b o ho (fun k => by have := hA b k; omega) (fun k => by rw [k.2.cells] at hc; cases hc)
      have n1 := keep _ _ (by omega) m1 rfl
      have n2 := keep _ _ (Nat.le_refl _) m2 rfl
      refine ⟨_, _, run_endRound none n1, rfl, ⟨hI _ _ _ hi3 (sameCells_put n1) (by simp [World.putObj]), writesE_put (hwb.trans (h3.mono (fun b k => .inl k) (fun e k => k) (Nat.le_refl _))) (by omega), ?_, (World.putObj_heap_other (by omega)).trans n2⟩, ?_⟩
      · have := World.putObj_heap_same (w := W3) (r := l) (o := .loop (rc .ready)) (Array.getElem?_eq_some_iff.1 n1).1
        rw [hrc] at this ⊢
        exact this
      · have q1 : KeepsE A E n W Wa := .of_below hba
        have q2 : KeepsE A E n Wa Wb := by rw [hWb]; exact keepE_put _ _ _ _ k1 rfl
        exact ((q1.trans q2).trans h3.keeps).trans (keepE_put _ _ _ _ n1 rfl)
    | ret => exact hp.elim
    | exit id => exact hp.elim
    | goto t => exact hp.elim
    | panic ch => exact hp.elim
    | outgrown => exact hp.elim
  · rintro e W2 ⟨⟨v, rfl⟩, hi, hw, h1, h2⟩
    have he := run_endLoop (P := P) h1 (by rw [hrc]; simp)
    refine ⟨none, _, by rw [he, hrc], hdone _ _ (Nat.le_refl _) (writesE_put hw (by omega)) (hI _ _ _ hi (sameCells_put h1) (by simp [World.putObj])) ((World.putObj_heap_other (by omega)).trans h2)⟩
end Go.Proofs.YtpnnbihofoomeaaDoor

/-
  bits.high's iterator: a number's bits, the highest first.
-/
namespace Go.Proofs.YtpnnbihofoomeaaDoor
open Go.RowKit Go.Shelf
attribute [local go_sem] Oper.semAt_some

/-- A number's bits, the highest first. -/
def numBits (n w : Nat) : List Bool := (List.range w).map fun j => n.testBit (w - 1 - j)
theorem numBits_length (n w : Nat) : (numBits n w).length = w := by simp [numBits]
theorem numBits_get {n w j : Nat} (h : j < w) : (numBits n w)[j]? = some (n.testBit (w - 1 - j)) := by simp [numBits, h]
theorem take_next {α : Type} {xs : List α} {j : Nat} {x : α} (h : xs[j]? = some x) : xs.take (j + 1) = xs.take j ++ [x] := by
  rw [List.take_add_one, h]
  rfl
theorem take_pre {α : Type} {xs : List α} {j : Nat} {x : α} (h : xs[j]? = some x) : xs.take j ++ [x] <+: xs := by
  rw [← take_next h]
  exact List.take_prefix _ _
attribute [local go_sem] and1
theorem bit_test (n k : Nat) : decide ((0 : Int) < ((n : Int) / 2 ^ k) % 2) = n.testBit k := by
  rw [Nat.testBit_eq_decide_div_mod_eq]
  have h : ((n : Int) / 2 ^ k) % 2 = ((n / 2 ^ k % 2 : Nat) : Int) := by push_cast; rfl
  rw [h]
  have : n / 2 ^ k % 2 < 2 := Nat.mod_lt _ (by decide)
  rw [decide_eq_decide]
  omega
theorem bit_test' (n k : Nat) : decide (((n : Int) / 2 ^ k) % 2 > 0) = n.testBit k := bit_test n k

set_option maxRecDepth 100000 in
set_option maxHeartbeats 4000000 in
theorem high1_seq (n wd : Nat) (Bw Bn : Nat) (A : Nat → Prop) (E : TypeId → Prop) (m : Nat) (w : World) (hwd : wd ≤ 32)
    (hw : w.heap[Bw]? = some (.cells #[.int .i64 wd] 3 (0, 0))) (hb : w.heap[Bn]? = some (.cells #[.int .i64 n] 3 (0, 0))) (hne : Bw ≠ Bn) (hAw : ¬ A Bw) (hAn : ¬ A Bn) (hE : ¬ E 3) :
    SeqAll Tryd.prog 91 #[.pointer (some ⟨Bw, 0, none⟩), .pointer (some ⟨Bn, 0, none⟩)] (fun b : Bool => #[.bool b]) (numBits n wd) A E m (fun b => b = Bw) w := by
  intro l J W hWb hJ hY hJ0
  have h1 := (hWb.block _ (Array.getElem?_eq_some_iff.1 hw).1).trans hw
  have h2 := (hWb.block _ (Array.getElem?_eq_some_iff.1 hb).1).trans hb
  have HJ := Lib.hid hJ
  have HY := Lib.hid hY
  clear hw hb hWb hJ hY
  refine callsIn_of_wp Tryd.func91 rfl trivial ?_ rfl
  simp only [Tryd.ntmps91, List.size_toArray, List.length_cons, List.length_nil, Nat.reduceAdd, Nat.reduceSub, Array.replicate_succ, Array.replicate_zero, List.push_toArray, List.append_toArray, List.nil_append, List.cons_append]
  gi_wp2_with fail
  gi_loopw [4] (fun _ wr => ∃ j : Nat, j ≤ wd ∧ Hid (J ((numBits n wd).take j) wr) ∧ Hid (wr.heap[Bw]? = some (.cells #[.int .i64 (wd - j : Nat)] 3 (0, 0))) ∧ Hid (wr.heap[Bn]? = some (.cells #[.int .i64 n] 3 (0, 0)))) (fun _ wr => match wr.cell? ⟨Bw, 0, none⟩ with | some (.int _ v) => v.toNat | _ => 0)
  case atStart => exact ⟨0, by omega, Lib.hid hJ0, Lib.hid (by simpa using h1), Lib.hid h2⟩
  case round =>
    obtain ⟨j, hj, HJj, H1, H2⟩ := hrel
    clear hJ0 h1 h2
    have y0 : wr.cell? ⟨Bw, 0, none⟩ = some (.int .i64 (wd - j : Nat)) := by simp [World.cell?, H1.out]
    have f0 : wr.frozen? ⟨Bw, 0, none⟩ = false := frozen_of_row _ _ _ _ _ H1.out
    have l0 : Bw < wr.heap.size := (Array.getElem?_eq_some_iff.1 H1.out).1
    have y1 : wr.cell? ⟨Bn, 0, none⟩ = some (.int .i64 n) := by simp [World.cell?, H2.out]
    have l1 : Bn < wr.heap.size := (Array.getElem?_eq_some_iff.1 H2.out).1
    by_cases hlt : j < wd
    · have d0 : (0 : Int) < ((wd - j : Nat) : Int) := by omega
      have e1 : IntKind.i64.wrap (((wd - j : Nat) : Int) - 1) = ((wd - (j + 1) : Nat) : Int) := by rw [IntWalk.i64_in _ (by omega)]; omega
      have hk : wd - (j + 1) ≤ 64 := by omega
      obtain ⟨X, hX⟩ : ∃ X, X = wr.setCell ⟨Bw, 0, none⟩ (.int .i64 (wd - (j + 1) : Nat)) := ⟨_, rfl⟩
      have hXw : ItW (fun b => b = Bw) wr X := by rw [hX]; exact ItW.set (C := fun b => b = Bw) rfl
      have X1 : X.heap[Bw]? = some (.cells #[.int .i64 (wd - (j + 1) : Nat)] 3 (0, 0)) := by
        rw [hX, heap_setCell_same _ _ _ _ _ _ H1.out]
        rfl
      have X2 : X.heap[Bn]? = some (.cells #[.int .i64 n] 3 (0, 0)) := by rw [hX]; exact (Below.heap_setCell _ _ _ _ (by dsimp only; exact fun h => hne h.symm)).trans H2.out
      have HXX := Lib.hid (⟨hXw, X1, X2⟩ : _ ∧ _ ∧ _)
      have hg : (numBits n wd)[j]? = some (n.testBit (wd - (j + 1))) := by rw [numBits_get hlt, show wd - 1 - j = wd - (j + 1) by omega]
      obtain ⟨fn, tmps, assign, body, hyy, hR⟩ := HY.out _ (n.testBit (wd - (j + 1))) X (HJ.out _ _ _ HJj.out hXw) (take_pre hg)
      have HG := Lib.hid hg
      have hbt := bit_test n (wd - (j + 1))

      subst hX
      gi_wp2
      refine hR.mono ?_
      rintro e W3 ⟨rfl, hJ3, hk3⟩
      have k1 := hk3.same _ _ HXX.out.2.1 rfl hAw (fun k => by obtain ⟨_, c, e, r, h, h'⟩ := k; cases h; exact hE h')
      have k2 := hk3.same _ _ HXX.out.2.2 rfl hAn (fun k => by obtain ⟨_, c, e, r, h, h'⟩ := k; cases h; exact hE h')
      have H3 := Lib.hid (⟨hJ3, k1, k2⟩ : _ ∧ _ ∧ _)
      clear hJ3 k1 k2 hk3 hyy
      gi_wp2
      go_roundw
      case measure =>
        have y3 : W3.cell? ⟨Bw, 0, none⟩ = some (.int .i64 (wd - (j + 1) : Nat)) := by simp [World.cell?, H3.out.2.1]
        rw [y3, y0]
        simp only [Int.toNat_natCast]
        omega
      case rel => exact ⟨j + 1, by omega, Lib.hid (by rw [take_next HG.out]; exact H3.out.1), Lib.hid H3.out.2.1, Lib.hid H3.out.2.2⟩
    · have d0 : ¬ (0 : Int) < ((wd - j : Nat) : Int) := by omega
      obtain rfl : j = wd := by omega
      have ht : (numBits n j).take j = numBits n j := List.take_of_length_le (by rw [numBits_length]; exact Nat.le_refl _)
      rw [ht] at HJj
      gi_wp2
      go_end0
      exact ⟨⟨_, rfl⟩, HJj.out⟩
end Go.Proofs.YtpnnbihofoomeaaDoor

/-
  A region whose last operations wait for all the others: the others go in whatever order, under a condition S of their own; then the last ones in the order of the text.
-/
namespace Go.Proofs.YtpnnbihofoomeaaDoor

section
variable {P : Program} {ops : Array Oper} {Q : Exit → Act → World → Prop} {md : Region.Mode}

theorem wpAny_more : ∀ (f : Nat) (listed : Array Bool) (a : Act) (w : World), wpAny P md ops Q f listed a w → wpAny P md ops Q (f + 1) listed a w
  | 0, _, _, _, h => ⟨fun _ => h.2, fun i hi => by rw [h.1] at hi; cases hi⟩
  | f + 1, _, _, _, h => ⟨h.1, fun i hi => wpOp_mono (fun a' w' h' => wpAny_more f _ a' w' h') (h.2 i hi)⟩
theorem wpAny_pad (f : Nat) (listed : Array Bool) (a : Act) (w : World) (h : wpAny P md ops Q f listed a w) : ∀ d : Nat, wpAny P md ops Q (d + f) listed a w
  | 0 => by rw [Nat.zero_add]; exact h
  | d + 1 => by rw [show d + 1 + f = d + f + 1 by omega]; exact wpAny_more _ _ _ _ (wpAny_pad f listed a w h d)

/-- The post of the head: at its end the tail goes. -/
def headPost (P : Program) (ops : Array Oper) (tl : List Oper) (Q : Exit → Act → World → Prop) : Exit → Act → World → Prop
  | .normal, a, w => wpList P ops Q tl a w
  | e, a, w => Q e a w

/-- The head's operations wait for earlier ones, and are guarded by the head's. -/
def headB (md : Region.Mode) (ops : Array Oper) (n : Nat) : Bool :=
  (List.range n).all fun i => match ops[i]? with
    | none => false
    | some o => o.after.all (fun e => !Region.binds md e || decide (e.on < i)) && (match o.guard with | none => true | some (j, _) => decide (j < n))
theorem headB_spec {n i : Nat} (h : headB md ops n = true) (hi : i < n) : ∃ o, ops[i]? = some o ∧ (∀ e ∈ o.after, Region.binds md e = true → e.on < i) ∧ (∀ j b, o.guard = some (j, b) → j < n) := by
  have h1 := List.all_eq_true.1 h i (List.mem_range.2 hi)
  revert h1
  cases ho : ops[i]? with
  | none => intro h1; cases h1
  | some o =>
    intro h1
    simp only [Bool.and_eq_true] at h1
    refine ⟨o, rfl, fun e he hb => ?_, fun j b hg => ?_⟩
    · have h2 := Array.all_eq_true'.1 h1.1 e he
      simpa [hb] using h2
    · have h2 := h1.2
      rw [hg] at h2
      simpa using h2

theorem oper_wp_post {o : Oper} {a : Act} {w : World} {K : Act → World → Prop} {tl : List Oper} (h : o.wp P a w K (headPost P ops tl Q)) : o.wp P a w K Q := by
  unfold Oper.wp at *
  generalize (execOp a.eval o).run P w = r at *
  cases r with
  | ok n w' =>
    cases n <;> simp only [Oper.upon] at h ⊢ <;>
      first
        | exact h
        | exact Calls.mono h (fun e w'' he => by cases e <;> exact he)
  | halt x w' => cases x <;> simp only [Oper.upon] at h ⊢ <;> exact h
theorem letsOut_post {tl : List Oper} (h : LetsOut (headPost P ops tl Q)) : LetsOut Q := h

theorem wpOp_head {hd tl : List Oper} {i : Nat} {K K' : Act → World → Prop} {a : Act} {w : World} (hB : headB md (hd ++ tl).toArray hd.length = true) (hi : i < hd.length) (hK : ∀ a w, K a w → K' a w)
    (h : wpOp P hd.toArray (headPost P (hd ++ tl).toArray tl Q) i K a w) : wpOp P (hd ++ tl).toArray Q i K' a w := by
  obtain ⟨o, ho, _, hg⟩ := headB_spec hB hi
  have ho' : hd.toArray[i]? = some o := by
    simpa [List.getElem?_append_left hi] using ho
  refine wpOp_mono hK ?_
  unfold wpOp at *
  simp only [ho] at ⊢
  simp only [ho'] at h
  have hw : Region.wanted o (yielded (hd ++ tl).toArray a.tmps) = Region.wanted o (yielded hd.toArray a.tmps) := by
    unfold Region.wanted
    cases hgo : o.guard with
    | none => rfl
    | some p =>
      obtain ⟨j, b⟩ := p
      have hj := hg j b hgo
      have e : (hd ++ tl).toArray[j]? = hd.toArray[j]? := by simp [List.getElem?_append_left hj]
      simp only [yielded, e]
  rw [hw]
  split
  · rename_i hw
    simp only [hw, if_true] at h
    exact h.imp oper_wp_post (fun h => ⟨h.1, letsOut_post h.2⟩)
  · rename_i hw
    simp only [hw] at h
    exact h

theorem getD_of {xs ys : Array Bool} {i : Nat} {d : Bool} (h : xs[i]? = ys[i]?) : xs.getD i d = ys.getD i d := by
  simp only [Array.getD_eq_getD_getElem?, h]

theorem ready_head {hd tl : List Oper} {lh listed : Array Bool} {i : Nat} (hB : headB md (hd ++ tl).toArray hd.length = true) (hi : i < hd.length)
    (hr : ∀ j, j < hd.length → lh[j]? = listed[j]?) : i ∈ Region.ready md (hd ++ tl).toArray listed ↔ i ∈ Region.ready md hd.toArray lh := by
  obtain ⟨o, ho, he, _⟩ := headB_spec hB hi
  have ho' : hd.toArray[i]? = some o := by
    simpa [List.getElem?_append_left hi] using ho
  rw [mem_ready, mem_ready, getD_of (hr i hi)]
  constructor
  · rintro ⟨h1, o1, h2, h3⟩
    obtain rfl : o1 = o := Option.some.inj (h2.symm.trans ho)
    exact ⟨h1, o1, ho', fun e h4 hb => (getD_of (hr e.on (by have := he e h4 hb; omega))).trans (h3 e h4 hb)⟩
  · rintro ⟨h1, o1, h2, h3⟩
    obtain rfl : o1 = o := Option.some.inj (h2.symm.trans ho')
    exact ⟨h1, o1, ho, fun e h4 hb => (getD_of (hr e.on (by have := he e h4 hb; omega))).symm.trans (h3 e h4 hb)⟩

/-- Some operation of the head is left: then one may come up. -/
theorem ready_some {n : Nat} {listed : Array Bool} (hB : headB md ops n = true) (hn : n ≤ listed.size) : ∀ (i : Nat), i < n → listed.getD i true = false → ∃ j, j < n ∧ j ∈ Region.ready md ops listed := by
  intro i
  induction i using Nat.strongRecOn with
  | _ i ih =>
    intro hi hu
    obtain ⟨o, ho, he, _⟩ := headB_spec hB hi
    by_cases h : ∀ e ∈ o.after, Region.binds md e = true → listed.getD e.on false = true
    · exact ⟨i, hi, mem_ready.2 ⟨hu, o, ho, h⟩⟩
    · simp only [Classical.not_forall] at h
      obtain ⟨e, he1, hb, h⟩ := h
      have hlt := he e he1 hb
      exact ih e.on hlt (by omega) (getD_in (by omega) (by simpa using h))

/-- The head, then the tail. -/
theorem wpAny_split {hd tl : List Oper} (hB : headB md (hd ++ tl).toArray hd.length = true) (hs : Region.sinkB md (hd ++ tl).toArray hd.length = true) (hc : Region.chainB md (hd ++ tl).toArray hd.length = true) (ht : 0 < tl.length)
    (hq : Region.seqB md (hd ++ tl).toArray tl.length hd.length (List.replicate hd.length true ++ List.replicate tl.length false).toArray = true) :
    ∀ (f : Nat) (lh listed : Array Bool) (a : Act) (w : World), HeadInv md (hd ++ tl).toArray hd.length listed → (∀ j, j < hd.length → lh[j]? = listed[j]?) →
      wpAny P md hd.toArray (headPost P (hd ++ tl).toArray tl Q) f lh a w → wpAny P md (hd ++ tl).toArray Q (f + tl.length) listed a w := by
  have hsz : (hd ++ tl).toArray.size = hd.length + tl.length := by simp
  have done : ∀ (f : Nat) (lh listed : Array Bool) (a : Act) (w : World), HeadInv md (hd ++ tl).toArray hd.length listed → (∀ j, j < hd.length → lh[j]? = listed[j]?) → Region.ready md hd.toArray lh = [] →
      wpList P (hd ++ tl).toArray Q tl a w → wpAny P md (hd ++ tl).toArray Q (f + tl.length) listed a w := by
    intro f lh listed a w inv hr h0 h
    have hall : ∀ i, i < hd.length → listed.getD i true = true := fun i hi => by
      cases hx : listed.getD i true with
      | true => rfl
      | false =>
        obtain ⟨j, hj, hjr⟩ := ready_some hB (by rw [inv.size, hsz]; omega) i hi hx
        have := (ready_head hB hj hr).1 hjr
        rw [h0] at this
        cases this
    have hl : listed = (List.replicate hd.length true ++ List.replicate tl.length false).toArray := by
      apply Array.ext
      · simp [inv.size]
      · intro i h1 h2
        rcases Nat.lt_or_ge i hd.length with hi | hi
        · have := hall i hi
          rw [Array.getD_eq_getD_getElem?, Array.getElem?_eq_getElem h1] at this
          simpa [List.getElem_append, hi] using this
        · have hi' : i < hd.length + tl.length := by rw [inv.size, hsz] at h1; exact h1
          have := inv.tail i hi (by rw [hsz]; exact hi')
          rw [Array.getD_eq_getD_getElem?, Array.getElem?_eq_getElem h1] at this
          simpa [List.getElem_append, Nat.not_lt.2 hi] using this
    refine wpAny_pad _ _ _ _ ?_ f
    refine wpAny_of_seq tl hd.length listed a w (fun j => by rw [List.getElem?_toArray, List.getElem?_append_right (Nat.le_add_right _ _), Nat.add_sub_cancel_left]) ?_ h
    rw [hl]
    exact hq
  intro f
  induction f with
  | zero => exact fun lh listed a w inv hr h => done 0 lh listed a w inv hr h.1 h.2
  | succ f ih =>
    intro lh listed a w inv hr h
    by_cases h0 : Region.ready md hd.toArray lh = []
    · exact done (f + 1) lh listed a w inv hr h0 (h.1 h0)
    · obtain ⟨i0, hi0⟩ := List.exists_mem_of_ne_nil _ h0
      have hlt0 : i0 < hd.length := by
        obtain ⟨_, o, ho, _⟩ := mem_ready.1 hi0
        simpa using (Array.getElem?_eq_some_iff.1 ho).1
      have hu0 : listed.getD i0 true = false := (getD_of (hr i0 hlt0)).symm.trans (mem_ready.1 hi0).1
      rw [show f + 1 + tl.length = f + tl.length + 1 by omega]
      refine ⟨fun h1 => ?_, fun i hi => ?_⟩
      · have := (ready_head hB hlt0 hr).2 hi0
        rw [h1] at this
        cases this
      · have hin : i < hd.length := by
          rcases Nat.lt_or_ge i hd.length with h | h
          · exact h
          · exact absurd hi (tail_waits hs hc (by rw [hsz]; omega) inv _ i0 rfl hlt0 hu0 i h)
        refine wpOp_head hB hin (fun a' w' h' => ih _ _ a' w' (inv.set hi hin) (fun j hj => ?_) h') (h.2 i ((ready_head hB hin hr).1 hi))
        have hs1 : lh.size = lh.size := rfl
        by_cases hij : i = j
        · subst hij
          have e := hr i hin
          have hlt : i < listed.size := by rw [inv.size, hsz]; omega
          have hlt' : i < lh.size := by
            rcases Nat.lt_or_ge i lh.size with h | h
            · exact h
            · rw [Array.getElem?_eq_none h, Array.getElem?_eq_getElem hlt] at e
              cases e
          simp [hlt, hlt']
        · rw [Array.getElem?_setIfInBounds_ne hij, Array.getElem?_setIfInBounds_ne hij]
          exact hr j hj

/-- A region that draws: its first n operations in whatever order, under S; then the others, which wait for them, in the text's order. -/
theorem wp_region_head {id : Nat} {a : Act} {w : World} {l : List Oper} (n : Nat) (S : World → Prop) (hm : P.follows .mixedOrders = true) (hn : decide (n < l.length) = true)
    (hB : headB .any (l.take n ++ l.drop n).toArray (l.take n).length = true) (hs : Region.sinkB .any (l.take n ++ l.drop n).toArray (l.take n).length = true) (hc : Region.chainB .any (l.take n ++ l.drop n).toArray (l.take n).length = true)
    (hq : Region.seqB .any (l.take n ++ l.drop n).toArray (l.drop n).length (l.take n).length (List.replicate (l.take n).length true ++ List.replicate (l.drop n).length false).toArray = true)
    (hS : S w.drew) (h : S w.drew → wpAnyH P .any (l.take n).toArray (headPost P l.toArray (l.drop n) Q) S n (Array.replicate n false) a w.drew) : (Code.region id l.toArray true).wp P Q a w := by
  have hn' : n < l.length := by simpa using hn
  have e : l.take n ++ l.drop n = l := List.take_append_drop n l
  refine wp_region_any hm ?_
  have H := wpAny_split (P := P) (Q := Q) hB hs hc (by simp; omega) hq n (Array.replicate n false) (Array.replicate l.toArray.size false) a w.drew
    ⟨by rw [e]; simp, fun j oj _ hl => (by rw [getD_replicate_false] at hl; cases hl), fun t _ ht => getD_in (by rw [e] at ht; simpa using ht) (getD_replicate_false _ _)⟩
    (fun j hj => by
      have : j < n := by simp at hj; omega
      simp [this, show j < l.length by omega])
    (by rw [e]; exact wpAny_of_held _ _ _ _ (h hS))
  have hl : n + (l.drop n).length = l.toArray.size := by simp; omega
  rw [hl, e] at H
  exact H
end
end Go.Proofs.YtpnnbihofoomeaaDoor

/-
  XRel inside a round of a loop over a function.
-/
namespace Go.Proofs.YtpnnbihofoomeaaDoor
open Go.RowKit

/-- No bound at all: outside of rounds, or in one. -/
def Wide (F : Fence) : Prop := F = Fence.wide ∨ ∃ l, F = Fence.wide.inRound l
theorem Wide.fn {F : Fence} (h : Wide F) (f : FuncId) : F.fn f := by
  rcases h with rfl | ⟨l, rfl⟩ <;> trivial
theorem Wide.depth {F : Fence} (h : Wide F) : F.depth = none := by
  rcases h with rfl | ⟨l, rfl⟩ <;> rfl
theorem Wide.calls {F : Fence} {n : Nat} {P : Program} {f : FuncId} {args : Array Value} {w : World} {R : Ending → World → Prop} (h : Wide F) (hc : Calls P f args w R) : CallsIn F n P f args w R := by
  rcases h with rfl | ⟨l, rfl⟩
  · exact callsIn_wide.2 hc
  · exact (callsIn_wide.2 hc).inRound l
def noDefer (o : Oper) : Bool := match o.op with
  | .defer _ => false
  | _ => true
section
variable {P : Program} {C : World → Prop} {St : World → World → Prop} {a0 : Act} {ops : Array Oper}

theorem wpIn_of_relUpon {F : Fence} {n : Nat} (hF : Wide F) {Q : Exit → Act → World → Prop} {o : Oper} {a : Act} {w : World} {T : Rel} {K : Act → World → Prop} (hnd : noDefer o = true) (h : relUpon P C St w T ((execOp a.eval o).run P w))
    (hK : ∀ v w', C w' → St w w' → T v w' → K (a.put o.dst v) w') : o.wpIn F n P a w K Q := by
  unfold Oper.wpIn
  refine ⟨fun _ _ => hF.fn _, ?_⟩
  rw [Oper.semAt_eq _ _ _ (fun c hc => by unfold noDefer at hnd; rw [hc] at hnd; cases hnd)]
  generalize (execOp a.eval o).run P w = r at *
  cases r with
  | ok x w' =>
    cases x <;> simp only [relUpon] at h <;> simp only [Oper.uponIn]
    case value u => exact hK _ _ h.1 h.2.1 h.2.2
    case skip => exact hK _ _ h.1 h.2.1 h.2.2
    case enter f args => exact ⟨fun h' => (by rw [hF.depth] at h'; cases h'), CallsIn.mono (hF.calls h) fun e w'' ⟨v, he, h1, h2, h3⟩ => by subst he; exact hK _ _ h1 h2 h3⟩
  | halt x w' => simp only [relUpon] at h

theorem rel_anyIn {F : Fence} {n : Nat} (hF : Wide F) (hnd : ∀ (i : Nat) (o : Oper), ops[i]? = some o → noDefer o = true) {Q : Exit → Act → World → Prop} {N : Nat} {lss : List Looks} {R : List Rel} (hB : relB ops N lss = true) (hN : a0.tmps.size = N)
    (hob : ∀ i o ls, ops[i]? = some o → lss[i]? = some ls →
      (∀ v w w', (R.getD i fun _ _ => True) v w → St w w' → (R.getD i fun _ _ => True) v w') ∧
      ∀ ρ w, Consts ρ → C w → seen a0 (R.take i).reverse ρ w ls.1 (obOp P C St o ls.2 (R.getD i fun _ _ => True) ρ w))
    (hR : R.length = ops.size) (hrefl : ∀ w, St w w)
    (hfin : ∀ a w, RInv ops C a0 R (Array.replicate ops.size true) a w → Q .normal a w) :
    ∀ (fuel : Nat) (listed : Array Bool) (a : Act) (w : World), listed.count false ≤ fuel → RInv ops C a0 R listed a w → wpAnyIn F n P .any ops Q fuel listed a w := by
  have hNw : ∀ j t, writesB ops j t = true → t < N := fun j t h => by
    obtain ⟨o, ho, hd⟩ := writesB_spec h
    obtain ⟨ls, _, hop⟩ := relB_spec hB ho
    simp only [opB, hd, Bool.and_eq_true, decide_eq_true_eq] at hop
    exact hop.1.1.1.1.2.1
  have huniq : ∀ i j t, writesB ops i t = true → writesB ops j t = true → j = i := fun i j t h h' => by
    obtain ⟨o, ho, hd⟩ := writesB_spec h
    obtain ⟨ls, _, hop⟩ := relB_spec hB ho
    simp only [opB, hd, Bool.and_eq_true] at hop
    obtain ⟨oj, hoj, _⟩ := writesB_spec h'
    have := List.all_eq_true.1 hop.1.1.1.1.2.2 j (List.mem_range.2 (Array.getElem?_eq_some_iff.1 hoj).1)
    simpa [h'] using this
  have done : ∀ (listed : Array Bool) (a : Act) (w : World), RInv ops C a0 R listed a w → Region.ready .any ops listed = [] → Q .normal a w := by
    intro listed a w inv hr
    have hall : ∀ i, i < ops.size → listed.getD i true = true := fun i hi => by
      cases hx : listed.getD i true with
      | true => rfl
      | false =>
        obtain ⟨j, hj⟩ := rel_ready_some hB inv.lsize i hi hx
        rw [hr] at hj
        cases hj
    have e : listed = Array.replicate ops.size true := by
      apply Array.ext
      · simp [inv.lsize]
      · intro i h1 h2
        have := hall i (by rw [← inv.lsize]; exact h1)
        simp only [Array.getD_eq_getD_getElem?, Array.getElem?_eq_getElem h1, Option.getD_some] at this
        simpa using this
    rw [e] at inv
    exact hfin a w inv
  intro fuel
  induction fuel with
  | zero =>
    intro listed a w hc inv
    have hr : Region.ready .any ops listed = [] := by
      refine List.eq_nil_iff_forall_not_mem.2 fun i hi => ?_
      obtain ⟨hu, o, ho, _⟩ := mem_ready.1 hi
      have hlt : i < listed.size := by rw [inv.lsize]; exact (Array.getElem?_eq_some_iff.1 ho).1
      have hf : false ∈ listed := by
        simp only [Array.getD_eq_getD_getElem?, Array.getElem?_eq_getElem hlt, Option.getD_some] at hu
        exact Array.mem_of_getElem hu
      have := Array.count_pos_iff.2 hf
      omega
    exact ⟨hr, done listed a w inv hr⟩
  | succ fuel ih =>
    intro listed a w hc inv
    refine ⟨done listed a w inv, fun i hi => ?_⟩
    obtain ⟨hu, o, ho, hpre⟩ := mem_ready.1 hi
    have hi' : i < ops.size := (Array.getElem?_eq_some_iff.1 ho).1
    have hlt : i < listed.size := by rw [inv.lsize]; exact hi'
    have huf : listed[i] = false := by simpa [Array.getD_eq_getD_getElem?, Array.getElem?_eq_getElem hlt] using hu
    have huF : listed.getD i false = false := by simp [Array.getD_eq_getD_getElem?, Array.getElem?_eq_getElem hlt, huf]
    obtain ⟨ls, hls, hop⟩ := relB_spec hB ho
    simp only [opB, Bool.and_eq_true] at hop
    obtain ⟨⟨⟨⟨⟨_, hdst⟩, hopd⟩, hlook⟩, hguard⟩, hafter⟩ := hop
    obtain ⟨hst, hobi⟩ := hob i o ls ho hls
    have hobi := hobi a.eval w ⟨fun _ => rfl, fun _ => rfl, fun _ => rfl⟩ inv.cls
    have hwait : ∀ j, waitsB ops i j = true → listed.getD j false = true := fun j hw => by
      obtain ⟨o', ho', e, he, hb, rfl⟩ := waitsB_spec hw
      obtain rfl : o' = o := Option.some.inj (ho'.symm.trans ho)
      exact hpre e he hb
    have hG : obOp P C St o ls.2 (R.getD i fun _ _ => True) a.eval w := by
      refine seen_elim hobi (fun t d hm => ?_) (fun t hm => ?_)
      · have := List.all_eq_true.1 hlook _ hm
        simp only [lookB, Bool.and_eq_true, decide_eq_true_eq] at this
        obtain ⟨⟨hd, hw⟩, hwt⟩ := this
        obtain ⟨oj, hoj, hdj⟩ := writesB_spec hw
        have hf := inv.facts (i - 1 - d) oj t hoj hdj (hwait _ hwt)
        have hRi : i ≤ R.length := by omega
        have e : (R.take i).reverse.getD d (fun _ _ => True) = R.getD (i - 1 - d) (fun _ _ => True) := by
          simp only [List.getD_eq_getElem?_getD]
          rw [List.getElem?_reverse (by simp; omega)]
          simp only [List.length_take, Nat.min_eq_left hRi]
          rw [List.getElem?_take_of_lt (by omega)]
        rw [e]
        exact hf
      · have := List.all_eq_true.1 hlook _ hm
        simp only [lookB] at this
        refine inv.olds t fun j hw => ?_
        obtain ⟨oj, hoj, _⟩ := writesB_spec hw
        have := List.all_eq_true.1 this j (List.mem_range.2 (Array.getElem?_eq_some_iff.1 hoj).1)
        simp only [hw, Bool.not_true, Bool.false_or, Bool.or_eq_true, beq_iff_eq] at this
        rcases this with rfl | hwt
        · exact huF
        · cases hx : listed.getD j false with
          | false => rfl
          | true =>
            have := inv.down j i hx hwt
            rw [huF] at this
            cases this
    have hnext : ∀ v w', C w' → St w w' → (R.getD i fun _ _ => True) v w' → RInv ops C a0 R (listed.setIfInBounds i true) (a.put o.dst v) w' := by
      intro v w' hC hSt hT
      have hg : ∀ j, j ≠ i → (listed.setIfInBounds i true).getD j false = listed.getD j false := fun j hj => getD_set_ne false (Ne.symm hj)
      have hgi : (listed.setIfInBounds i true).getD i false = true := by simp [hlt]
      refine ⟨hC, ?_, ?_, by simp [inv.lsize], fun j oj t hoj hdj hl => ?_, fun t ht => ?_, fun j k hj hw => ?_⟩
      · rw [← inv.defers]; cases o.dst <;> rfl
      · rw [← inv.size]; cases o.dst <;> simp [Act.put]
      · by_cases hji : j = i
        · subst hji
          obtain rfl : oj = o := Option.some.inj (hoj.symm.trans ho)
          rw [hdj, eval_put_eq (by rw [inv.size, hN]; exact hNw _ _ (writesB_of hoj hdj))]
          exact hT
        · rw [hg j hji] at hl
          have e : (a.put o.dst v).eval (.tmp t) = a.eval (.tmp t) := by
            cases hd : o.dst with
            | none => rfl
            | some d =>
              refine eval_put_ne fun he => ?_
              subst he
              exact hji (huniq _ _ _ (writesB_of ho hd) (writesB_of hoj hdj))
          rw [e]
          obtain ⟨lsj, hlsj, _⟩ := relB_spec hB hoj
          exact (hob j oj lsj hoj hlsj).1 _ _ _ (inv.facts j oj t hoj hdj hl) hSt
      · have hne : ¬ writesB ops i t = true := fun hw => by
          have := ht i hw
          rw [hgi] at this
          cases this
        have e : (a.put o.dst v).eval (.tmp t) = a.eval (.tmp t) := by
          cases hd : o.dst with
          | none => rfl
          | some d =>
            refine eval_put_ne fun he => ?_
            subst he
            exact hne (writesB_of ho hd)
        rw [e]
        refine inv.olds t fun j hw => ?_
        by_cases hji : j = i
        · subst hji; exact absurd hw hne
        · rw [← hg j hji]; exact ht j hw
      · by_cases hki : k = i
        · subst hki; exact hgi
        · rw [hg k hki]
          by_cases hji : j = i
          · subst hji; exact hwait k hw
          · rw [hg j hji] at hj; exact inv.down j k hj hw
    have hcount : (listed.setIfInBounds i true).count false ≤ fuel := by
      have hf : false ∈ listed := Array.mem_of_getElem huf
      have h1 := Array.count_pos_iff.2 hf
      rw [Array.setIfInBounds_def, dif_pos hlt, Array.count_set]
      simp only [huf, beq_self_eq_true, if_true]
      have : (true == false) = false := rfl
      simp only [this, Bool.false_eq_true, if_false]
      omega
    have hwant := wanted_of_guard (a := a) (ls := ls) (by rw [inv.size]; exact hN) hNw hguard
    unfold wpOpIn
    simp only [ho]
    obtain ⟨l1, gd⟩ := ls
    cases gd with
    | none =>
      dsimp only at hwant
      rw [if_pos hwant]
      exact (wpIn_of_relUpon hF (hnd i o ho) hG fun v w' h1 h2 h3 => ih _ _ _ hcount (hnext v w' h1 h2 h3))
    | some p =>
      obtain ⟨t, b⟩ := p
      dsimp only at hwant
      dsimp only [obOp] at hG
      by_cases hv : a.eval (.tmp t) = .bool b
      · rw [if_pos (hwant.2 hv)]
        exact (wpIn_of_relUpon hF (hnd i o ho) (hG.1 hv) fun v w' h1 h2 h3 => ih _ _ _ hcount (hnext v w' h1 h2 h3))
      · rw [if_neg (fun h => hv (hwant.1 h))]
        exact ⟨fun _ _ => hF.fn _, ih _ _ _ hcount (hnext undef w inv.cls (hrefl w) (hG.2 hv))⟩
end

/-- **A region that draws its order, told by relations.** lss: what each operation looks at; es: what is wanted at the end: (counted backwards from the last operation, its temporary). -/
theorem wpAnyIn_rel {F : Fence} {n : Nat} (hF : Wide F) {P : Program} {Q : Exit → Act → World → Prop} {a : Act} {w : World} {l : List Oper} (C : World → Prop) (St : World → World → Prop) (lss : List Looks) (es : List (Nat × Nat)) 
    (hB : (relB l.toArray a.tmps.size lss && es.all fun e => decide (e.1 < l.length) && writesB l.toArray (l.length - 1 - e.1) e.2) = true) (hrefl : ∀ w, St w w) (hC : C w.drew) (hnd : (l.all noDefer) = true)
    (h : obFrom P C St a (fun K => ∀ (vs : Nat → Value) (w' : World), C w' → endSeen K vs w' es (Q .normal ⟨writeAll l vs a.tmps, a.defers⟩ w')) l lss []) : wpAnyIn F n P .any l.toArray Q l.toArray.size (Array.replicate l.toArray.size false) a w.drew := by
  simp only [Bool.and_eq_true] at hB
  obtain ⟨R, hl, hf, hall⟩ := ob_all l lss [] h
  simp only [List.append_nil] at hf hall
  refine (rel_anyIn hF (fun i o ho => List.all_eq_true.1 hnd o (List.mem_of_getElem? (by simpa using ho))) (N := a.tmps.size) (lss := lss) (R := R) hB.1 rfl (fun i o ls ho hls => hall i o ls (by simpa using ho) hls) (by simpa using hl) hrefl ?_ _ _ _ _ ?_ ?_)
  · intro a' w' inv
    have hk := hf (fun t => a'.eval (.tmp t)) w' inv.cls
    have hq := endSeen_intro hk fun d t hm => by
      have := List.all_eq_true.1 hB.2 _ hm
      simp only [Bool.and_eq_true, decide_eq_true_eq] at this
      obtain ⟨o, ho, hd⟩ := writesB_spec this.2
      have hf := inv.facts _ o t ho hd (by
        have := (Array.getElem?_eq_some_iff.1 ho).1
        simp only [Array.getD_eq_getD_getElem?]
        rw [Array.getElem?_replicate, if_pos this]
        rfl)
      have e : R.reverse.getD d (fun _ _ => True) = R.getD (l.length - 1 - d) (fun _ _ => True) := by
        simp only [List.getD_eq_getElem?_getD]
        rw [List.getElem?_reverse (by omega), hl]
      rw [e]
      exact hf
    have e : (⟨writeAll l (fun t => a'.eval (.tmp t)) a.tmps, a.defers⟩ : Act) = a' := by
      obtain ⟨t', d'⟩ := a'
      have h1 := inv.size
      have h2 := inv.defers
      dsimp only at h1 h2 ⊢
      congr 1
      · apply Array.ext
        · rw [writeAll_size, h1]
        · intro s hs1 hs2
          apply Option.some.inj
          rw [← Array.getElem?_eq_getElem hs1, ← Array.getElem?_eq_getElem hs2]
          have hsa : s < a.tmps.size := by rw [← h1]; exact hs2
          have ev : (⟨t', d'⟩ : Act).eval (.tmp s) = t'[s] := by simp [Act.eval, hs2]
          by_cases hx : ∃ o ∈ l, o.dst = some s
          · rw [writeAll_some l _ hsa (.inr hx), ev, Array.getElem?_eq_getElem hs2]
          · rw [writeAll_none l _ (fun o ho he => hx ⟨o, ho, he⟩)]
            have := inv.olds s (fun j hw => by
              obtain ⟨o, ho, hd⟩ := writesB_spec hw
              exact absurd ⟨o, List.mem_of_getElem? (by simpa using ho), hd⟩ hx)
            rw [ev] at this
            rw [Array.getElem?_eq_getElem hs2, this]
            simp [Act.eval, hsa]
      · exact h2.symm
    rw [e] at hq
    exact hq
  · simp
  · refine ⟨hC, rfl, rfl, by simp, fun j o t _ _ hj => ?_, fun _ _ => rfl, fun j k hj => ?_⟩
    · rw [Array.getD_eq_getD_getElem?, Array.getElem?_replicate] at hj
      split at hj <;> simp at hj
    · rw [Array.getD_eq_getD_getElem?, Array.getElem?_replicate] at hj
      split at hj <;> simp at hj



/-- A drawn region inside a fence. -/
theorem wpIn_region_rel_below {F : Fence} {n : Nat} (hF : Wide F) {P : Program} {id : Nat} {Q : Exit → Act → World → Prop} {a : Act} {w : World} {l : List Oper} (lss : List Looks) (es : List (Nat × Nat)) (hm : P.follows .mixedOrders = true) (hnd : (l.all noDefer) = true)
    (hB : (relB l.toArray a.tmps.size lss && es.all fun e => decide (e.1 < l.length) && writesB l.toArray (l.length - 1 - e.1) e.2) = true)
    (h : obFrom P (ClB w) StB a (fun K => ∀ (vs : Nat → Value) (w' : World), ClB w w' → endSeen K vs w' es (Q .normal ⟨writeAll l vs a.tmps, a.defers⟩ w')) l lss []) : (Code.region id l.toArray true).wpIn F n P Q a w :=
  wpIn_region_any hm (wpAnyIn_rel hF (ClB w) StB lss es hB (fun _ => Below.refl _ _) ((Below.refl _ _).drew) hnd h)
end Go.Proofs.YtpnnbihofoomeaaDoor

/-
  A drawn region inside a fence: its first operations in whatever order, told by relations; then the others, which wait for them, in the order of the text.
-/
namespace Go.Proofs.YtpnnbihofoomeaaDoor
open Go.RowKit

section
variable {F : Fence} {N : Nat} {P : Program} {ops : Array Oper} {Q : Exit → Act → World → Prop} {md : Region.Mode}
theorem wpAnyIn_more : ∀ (f : Nat) (listed : Array Bool) (a : Act) (w : World), wpAnyIn F N P md ops Q f listed a w → wpAnyIn F N P md ops Q (f + 1) listed a w
  | 0, _, _, _, h => ⟨fun _ => h.2, fun i hi => by rw [h.1] at hi; cases hi⟩
  | f + 1, _, _, _, h => ⟨h.1, fun i hi => wpOpIn_mono (fun a' w' h' => wpAnyIn_more f _ a' w' h') (h.2 i hi)⟩
theorem wpAnyIn_pad (f : Nat) (listed : Array Bool) (a : Act) (w : World) (h : wpAnyIn F N P md ops Q f listed a w) : ∀ d : Nat, wpAnyIn F N P md ops Q (d + f) listed a w
  | 0 => by rw [Nat.zero_add]; exact h
  | d + 1 => by rw [show d + 1 + f = d + f + 1 by omega]; exact wpAnyIn_more _ _ _ _ (wpAnyIn_pad f listed a w h d)

/-- The post of the head: at its end the tail goes. -/
def headPostIn (F : Fence) (N : Nat) (P : Program) (ops : Array Oper) (tl : List Oper) (Q : Exit → Act → World → Prop) : Exit → Act → World → Prop
  | .normal, a, w => wpListIn F N P ops Q tl a w
  | e, a, w => Q e a w
theorem oper_wpIn_post {o : Oper} {a : Act} {w : World} {K : Act → World → Prop} {tl : List Oper} (h : o.wpIn F N P a w K (headPostIn F N P ops tl Q)) : o.wpIn F N P a w K Q := by
  unfold Oper.wpIn at *
  refine ⟨h.1, ?_⟩
  have h := h.2
  generalize (o.semAt F.round a.eval).run P w = r at *
  cases r with
  | ok n w' =>
    cases n <;> simp only [Oper.uponIn] at h ⊢ <;>
      first
        | exact h
        | exact ⟨h.1, CallsIn.mono h.2 (fun e w'' he => by cases e <;> exact he)⟩
        | exact ⟨h.1, RoundIn.mono h.2 (fun e w'' he => by cases e <;> exact he)⟩
  | halt x w' => cases x <;> simp only [Oper.uponIn] at h ⊢ <;> exact h
theorem wpAnyIn_of_seq {Q' : Exit → Act → World → Prop} : ∀ (l : List Oper) (k : Nat) (listed : Array Bool) (a : Act) (w : World), (∀ j, l[j]? = ops[k + j]?) →
    Region.seqB md ops l.length k listed = true → wpListIn F N P ops Q' l a w → wpAnyIn F N P md ops Q' l.length listed a w
  | [], _, _, _, _, _, hB, h => ⟨by simpa [Region.seqB] using hB, h⟩
  | o :: l, k, listed, a, w, hl, hB, h => by
    have h0 : ops[k]? = some o := by simpa using (hl 0).symm
    simp only [List.length_cons, Region.seqB, Bool.and_eq_true, decide_eq_true_eq] at hB
    refine ⟨fun h1 => (by rw [hB.1] at h1; cases h1), fun i hi => ?_⟩
    rw [hB.1] at hi
    have hik : i = k := by simpa using hi
    subst hik
    have hw : wpOpIn F N P ops Q' i (wpListIn F N P ops Q' l) a w := by unfold wpOpIn; simp only [h0]; exact h
    exact wpOpIn_mono (fun a' w' h' => wpAnyIn_of_seq l (i + 1) _ a' w' (fun j => by have := hl (j + 1); simpa [Nat.add_assoc, Nat.add_comm 1 j] using this) hB.2 h') hw
theorem wpOpIn_head {hd tl : List Oper} {i : Nat} {K K' : Act → World → Prop} {a : Act} {w : World} (hB : headB md (hd ++ tl).toArray hd.length = true) (hi : i < hd.length) (hK : ∀ a w, K a w → K' a w)
    (h : wpOpIn F N P hd.toArray (headPostIn F N P (hd ++ tl).toArray tl Q) i K a w) : wpOpIn F N P (hd ++ tl).toArray Q i K' a w := by
  obtain ⟨o, ho, _, hg⟩ := headB_spec hB hi
  have ho' : hd.toArray[i]? = some o := by
    simpa [List.getElem?_append_left hi] using ho
  refine wpOpIn_mono hK ?_
  unfold wpOpIn at *
  simp only [ho] at ⊢
  simp only [ho'] at h
  have hw : Region.wanted o (yielded (hd ++ tl).toArray a.tmps) = Region.wanted o (yielded hd.toArray a.tmps) := by
    unfold Region.wanted
    cases hgo : o.guard with
    | none => rfl
    | some p =>
      obtain ⟨j, b⟩ := p
      have hj := hg j b hgo
      have e : (hd ++ tl).toArray[j]? = hd.toArray[j]? := by simp [List.getElem?_append_left hj]
      simp only [yielded, e]
  rw [hw]
  split
  · rename_i hw
    simp only [hw, if_true] at h
    exact oper_wpIn_post h
  · rename_i hw
    simp only [hw] at h
    exact h

theorem wpAnyIn_split {hd tl : List Oper} (hB : headB md (hd ++ tl).toArray hd.length = true) (hs : Region.sinkB md (hd ++ tl).toArray hd.length = true) (hc : Region.chainB md (hd ++ tl).toArray hd.length = true) (ht : 0 < tl.length)
    (hq : Region.seqB md (hd ++ tl).toArray tl.length hd.length (List.replicate hd.length true ++ List.replicate tl.length false).toArray = true) :
    ∀ (f : Nat) (lh listed : Array Bool) (a : Act) (w : World), HeadInv md (hd ++ tl).toArray hd.length listed → (∀ j, j < hd.length → lh[j]? = listed[j]?) →
      wpAnyIn F N P md hd.toArray (headPostIn F N P (hd ++ tl).toArray tl Q) f lh a w → wpAnyIn F N P md (hd ++ tl).toArray Q (f + tl.length) listed a w := by
  have hsz : (hd ++ tl).toArray.size = hd.length + tl.length := by simp
  have done : ∀ (f : Nat) (lh listed : Array Bool) (a : Act) (w : World), HeadInv md (hd ++ tl).toArray hd.length listed → (∀ j, j < hd.length → lh[j]? = listed[j]?) → Region.ready md hd.toArray lh = [] →
      wpListIn F N P (hd ++ tl).toArray Q tl a w → wpAnyIn F N P md (hd ++ tl).toArray Q (f + tl.length) listed a w := by
    intro f lh listed a w inv hr h0 h
    have hall : ∀ i, i < hd.length → listed.getD i true = true := fun i hi => by
      cases hx : listed.getD i true with
      | true => rfl
      | false =>
        obtain ⟨j, hj, hjr⟩ := ready_some hB (by rw [inv.size, hsz]; omega) i hi hx
        have := (ready_head hB hj hr).1 hjr
        rw [h0] at this
        cases this
    have hl : listed = (List.replicate hd.length true ++ List.replicate tl.length false).toArray := by
      apply Array.ext
      · simp [inv.size]
      · intro i h1 h2
        rcases Nat.lt_or_ge i hd.length with hi | hi
        · have := hall i hi
          rw [Array.getD_eq_getD_getElem?, Array.getElem?_eq_getElem h1] at this
          simpa [List.getElem_append, hi] using this
        · have hi' : i < hd.length + tl.length := by rw [inv.size, hsz] at h1; exact h1
          have := inv.tail i hi (by rw [hsz]; exact hi')
          rw [Array.getD_eq_getD_getElem?, Array.getElem?_eq_getElem h1] at this
          simpa [List.getElem_append, Nat.not_lt.2 hi] using this
    refine wpAnyIn_pad _ _ _ _ ?_ f
    refine wpAnyIn_of_seq tl hd.length listed a w (fun j => by rw [List.getElem?_toArray, List.getElem?_append_right (Nat.le_add_right _ _), Nat.add_sub_cancel_left]) ?_ h
    rw [hl]
    exact hq
  intro f
  induction f with
  | zero => exact fun lh listed a w inv hr h => done 0 lh listed a w inv hr h.1 h.2
  | succ f ih =>
    intro lh listed a w inv hr h
    by_cases h0 : Region.ready md hd.toArray lh = []
    · exact done (f + 1) lh listed a w inv hr h0 (h.1 h0)
    · obtain ⟨i0, hi0⟩ := List.exists_mem_of_ne_nil _ h0
      have hlt0 : i0 < hd.length := by
        obtain ⟨_, o, ho, _⟩ := mem_ready.1 hi0
        simpa using (Array.getElem?_eq_some_iff.1 ho).1
      have hu0 : listed.getD i0 true = false := (getD_of (hr i0 hlt0)).symm.trans (mem_ready.1 hi0).1
      rw [show f + 1 + tl.length = f + tl.length + 1 by omega]
      refine ⟨fun h1 => ?_, fun i hi => ?_⟩
      · have := (ready_head hB hlt0 hr).2 hi0
        rw [h1] at this
        cases this
      · have hin : i < hd.length := by
          rcases Nat.lt_or_ge i hd.length with h | h
          · exact h
          · exact absurd hi (tail_waits hs hc (by rw [hsz]; omega) inv _ i0 rfl hlt0 hu0 i h)
        refine wpOpIn_head hB hin (fun a' w' h' => ih _ _ a' w' (inv.set hi hin) (fun j hj => ?_) h') (h.2 i ((ready_head hB hin hr).1 hi))
        have hs1 : lh.size = lh.size := rfl
        by_cases hij : i = j
        · subst hij
          have e := hr i hin
          have hlt : i < listed.size := by rw [inv.size, hsz]; omega
          have hlt' : i < lh.size := by
            rcases Nat.lt_or_ge i lh.size with h | h
            · exact h
            · rw [Array.getElem?_eq_none h, Array.getElem?_eq_getElem hlt] at e
              cases e
          simp [hlt, hlt']
        · rw [Array.getElem?_setIfInBounds_ne hij, Array.getElem?_setIfInBounds_ne hij]
          exact hr j hj

/-- A drawn region inside a fence: its first m operations in whatever order, told by relations; then the others, which wait for them, in the order of the text. -/
theorem wpIn_region_rel_head (hF : Wide F) {id : Nat} {a : Act} {w : World} {l : List Oper} (m : Nat) (lss : List Looks) (es : List (Nat × Nat)) (hm : P.follows .mixedOrders = true) (hnd : ((l.take m).all noDefer) = true) (hn : decide (m < l.length) = true)
    (hB : (relB (l.take m).toArray a.tmps.size lss && es.all fun e => decide (e.1 < (l.take m).length) && writesB (l.take m).toArray ((l.take m).length - 1 - e.1) e.2) = true)
    (hH : headB .any (l.take m ++ l.drop m).toArray (l.take m).length = true) (hs : Region.sinkB .any (l.take m ++ l.drop m).toArray (l.take m).length = true) (hc : Region.chainB .any (l.take m ++ l.drop m).toArray (l.take m).length = true)
    (hq : Region.seqB .any (l.take m ++ l.drop m).toArray (l.drop m).length (l.take m).length (List.replicate (l.take m).length true ++ List.replicate (l.drop m).length false).toArray = true)
    (h : obFrom P (ClB w) StB a (fun K => ∀ (vs : Nat → Value) (w' : World), ClB w w' → endSeen K vs w' es (wpListIn F N P l.toArray Q (l.drop m) ⟨writeAll (l.take m) vs a.tmps, a.defers⟩ w')) (l.take m) lss []) : (Code.region id l.toArray true).wpIn F N P Q a w := by
  have hn' : m < l.length := by simpa using hn
  have e : l.take m ++ l.drop m = l := List.take_append_drop m l
  refine wpIn_region_any hm ?_
  have H := wpAnyIn_split (F := F) (N := N) (P := P) (Q := Q) hH hs hc (by simp; omega) hq (l.take m).toArray.size (Array.replicate (l.take m).toArray.size false) (Array.replicate l.toArray.size false) a w.drew
    ⟨by rw [e]; simp, fun j oj _ hl => (by rw [getD_replicate_false] at hl; cases hl), fun t _ ht => getD_in (by rw [e] at ht; simpa using ht) (getD_replicate_false _ _)⟩
    (fun j hj => by
      have hj2 : j < (l.take m).toArray.size := by simpa using hj
      have hj3 : j < l.toArray.size := by simp at hj2 ⊢; omega
      rw [Array.getElem?_replicate, Array.getElem?_replicate, if_pos hj2, if_pos hj3])
    (by rw [e]; exact wpAnyIn_rel hF (Q := headPostIn F N P l.toArray (l.drop m) Q) (ClB w) StB lss es hB (fun _ => Below.refl _ _) ((Below.refl _ _).drew) hnd h)
  have hl : (l.take m).toArray.size + (l.drop m).length = l.toArray.size := by simp; omega
  rw [hl, e] at H
  exact H
end
end Go.Proofs.YtpnnbihofoomeaaDoor
