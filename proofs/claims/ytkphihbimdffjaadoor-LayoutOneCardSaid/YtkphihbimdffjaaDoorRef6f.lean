/-
  lockbarref06.Steps, Same.
-/
import Derived.Test.YtkphihbimdffjaaDoorBoxes
import Derived.Test.YtkphihbimdffjaaDoorEq2
import Derived.Test.YtkphihbimdffjaaDoorSame2
namespace Go.Proofs.YtkphihbimdffjaaDoor
open Go.RowKit Go.Shelf

set_option maxRecDepth 100000 in
theorem eqQ_times (L M : Lay) (w : World) : (Op.equalIn 10000 27 (.agg #[.int .i64 L.t0, .int .i64 L.t1, .int .i64 L.t2, .int .i64 L.t3, .int .i64 L.t4, .int .i64 L.t5, .int .i64 L.t6]) (.agg #[.int .i64 M.t0, .int .i64 M.t1, .int .i64 M.t2, .int .i64 M.t3, .int .i64 M.t4, .int .i64 M.t5, .int .i64 M.t6])).run Tryd.prog w = .ok (decide (L.times = M.times)) w := by
  unfold Lay.times
  rw [run_equalIn_struct w 9999 27 _ _ (by kernel_rfl) (by kernel_rfl)]
  by_cases h0 : L.t0 = M.t0
  · by_cases h1 : L.t1 = M.t1
    · by_cases h2 : L.t2 = M.t2
      · by_cases h3 : L.t3 = M.t3
        · by_cases h4 : L.t4 = M.t4
          · by_cases h5 : L.t5 = M.t5
            · by_cases h6 : L.t6 = M.t6 <;> simp [Op.eqFields, go_sem, Tryd.underlying27, h0, h1, h2, h3, h4, h5, h6]
            · simp [Op.eqFields, go_sem, Tryd.underlying27, h0, h1, h2, h3, h4, h5]
          · simp [Op.eqFields, go_sem, Tryd.underlying27, h0, h1, h2, h3, h4]
        · simp [Op.eqFields, go_sem, Tryd.underlying27, h0, h1, h2, h3]
      · simp [Op.eqFields, go_sem, Tryd.underlying27, h0, h1, h2]
    · simp [Op.eqFields, go_sem, Tryd.underlying27, h0, h1]
  · simp [Op.eqFields, go_sem, Tryd.underlying27, h0]
set_option maxRecDepth 100000 in
theorem eqQ_portI (x0 x1 y0 y1 : Int) (w : World) : (Op.equalIn 10000 31 (.agg #[.int .i64 x0, .int .i64 x1]) (.agg #[.int .i64 y0, .int .i64 y1])).run Tryd.prog w = .ok (decide (x0 = y0 ∧ x1 = y1)) w := by
  rw [run_equalIn_struct w 9999 31 _ _ (by kernel_rfl) stoodE_port]
  by_cases h0 : x0 = y0 <;> by_cases h1 : x1 = y1 <;> simp [Op.eqFields, go_sem, Tryd.underlying31, h0, h1]
attribute [local go_sem ↓ high] eqQ_portI eqQ_signal eqQ_step eqQ_flank eqQ_sec eqQ_times

theorem ne_at {α : Type} {xs ys : List α} {n : Nat} {x y : α} (hx : xs[n]? = some x) (hy : ys[n]? = some y) (h : x ≠ y) : xs ≠ ys := fun e => h (by rw [e, hy] at hx; exact (Option.some.inj hx).symm)
theorem eq_all {α : Type} {xs ys : List α} (hl : xs.length = ys.length) (h : ∀ (j : Nat) (x y : α), j < xs.length → xs[j]? = some x → ys[j]? = some y → x = y) : xs = ys := by
  refine eq_of_all hl fun j hj => ?_
  rw [List.getElem?_eq_getElem hj, List.getElem?_eq_getElem (by omega)]
  congr 1
  exact h j _ _ hj (List.getElem?_eq_getElem hj) (List.getElem?_eq_getElem (by omega))

set_option maxRecDepth 100000 in
set_option maxHeartbeats 8000000 in
theorem rSteps_any (A A' : Option Addr) (cap cap' : Nat) (xs ys : List Stp) (w : World) (hA : At w 3 Stp.enc A xs) (hA' : At w 3 Stp.enc A' ys) (hm : xs.length ≤ 9223372036854775807) :
    Calls Tryd.prog 57 #[.slice A xs.length cap, .slice A' ys.length cap'] w fun e w' => e = .returned (.bool (decide (xs = ys))) ∧ Below w.heap.size w w' := by
  obtain ⟨r, hr⟩ : ∃ r, r = decide (xs = ys) := ⟨_, rfl⟩
  rw [← hr]
  have hf : xs ≠ ys → r = false := fun h => hr.trans (decide_eq_false h)
  have ht : xs = ys → r = true := fun h => hr.trans (decide_eq_true h)
  have HF := Lib.hid hf
  have HT := Lib.hid ht
  have HA := Lib.hid hA
  have HA' := Lib.hid hA'
  clear hr hf ht hA hA'
  by_cases hl : xs.length = ys.length
  · have HLE := Lib.hid hl
    have d0 : ((xs.length : Int) == (ys.length : Int)) = true := by simp; omega
    have d1 : ((xs.length : Int) != (ys.length : Int)) = false := by simp; omega
    have hl' : ys.length ≤ xs.length ∧ xs.length ≤ ys.length := by omega
    obtain ⟨hl1, hl2⟩ := hl'
    clear hl
    go_enter Tryd.func57, Tryd.ntmps57
    go_wp2_with fail
    go_loopw [5] (fun c wr => ∃ n : Nat, n ≤ xs.length ∧ c = .int .i64 n ∧ Hid (∀ (j : Nat) (x y : Stp), j < n → xs[j]? = some x → ys[j]? = some y → x = y) ∧ Hid (Below w.heap.size w wr)) (fun c _ => xs.length - (intOf c).toNat)
    case atStart => exact ⟨0, by omega, rfl, Lib.hid (fun j x y hj => absurd hj (Nat.not_lt_zero _)), Lib.hid (Below.refl _ _)⟩
    case round =>
      obtain ⟨n, hn, rfl, HJ, HB⟩ := hrel
      obtain ⟨V, rfl⟩ : ∃ V : World, V = wr := ⟨_, rfl⟩
      by_cases hlt : n < xs.length
      · obtain ⟨b, off, hAe, hrow⟩ := HA.out.get hlt
        obtain ⟨b2, off2, hAe2, hrow2⟩ := HA'.out.get (j := n) (by omega)
        subst hAe hAe2
        obtain ⟨x, hx⟩ : ∃ x, xs[n]? = some x := ⟨xs[n], List.getElem?_eq_getElem hlt⟩
        obtain ⟨y, hy⟩ : ∃ y, ys[n]? = some y := ⟨ys[n]'(by omega), List.getElem?_eq_getElem (by omega)⟩
        have c0 : V.cell? ⟨b, off + n * 3, none⟩ = some (.int .i64 x.s) := (hrow.below HB.out).2 n x hx 0 _ rfl
        have c1 : V.cell? ⟨b, off + n * 3 + 1, none⟩ = some (.int .i64 x.i) := (hrow.below HB.out).2 n x hx 1 _ rfl
        have c2 : V.cell? ⟨b, off + n * 3 + 2, none⟩ = some (.int .i64 x.o) := (hrow.below HB.out).2 n x hx 2 _ rfl
        have e0 : V.cell? ⟨b2, off2 + n * 3, none⟩ = some (.int .i64 y.s) := (hrow2.below HB.out).2 n y hy 0 _ rfl
        have e1 : V.cell? ⟨b2, off2 + n * 3 + 1, none⟩ = some (.int .i64 y.i) := (hrow2.below HB.out).2 n y hy 1 _ rfl
        have e2 : V.cell? ⟨b2, off2 + n * 3 + 2, none⟩ = some (.int .i64 y.o) := (hrow2.below HB.out).2 n y hy 2 _ rfl
        have lb : b < V.heap.size := (hrow.below HB.out).1
        have lb2 : b2 < V.heap.size := (hrow2.below HB.out).1
        have hlt2 : n < ys.length := by omega
        have next : x = y → Hid (∀ (j : Nat) (x y : Stp), j < n + 1 → xs[j]? = some x → ys[j]? = some y → x = y) := fun h => Lib.hid fun j x' y' hj hx' hy' => by
          by_cases e : j = n
          · subst e
            rw [hx] at hx'
            rw [hy] at hy'
            cases hx'
            cases hy'
            exact h
          · exact HJ.out j x' y' (by omega) hx' hy'
        have hne : x ≠ y → r = false := fun h => HF.out (ne_at hx hy h)
        have hq : ∃ q, decide (x = y) = q ∧ (q = true → x = y) ∧ (q = false → x ≠ y) := ⟨_, rfl, of_decide_eq_true, of_decide_eq_false⟩
        obtain ⟨q, hq1, hq2, hq3⟩ := hq
        have HQ := Lib.hid (⟨hq2, hq3⟩ : _ ∧ _)
        have NX := Lib.hid next
        have HNE := Lib.hid hne
        clear next hne hx hy hrow hrow2 hq2 hq3
        cases q
        · obtain rfl := HNE.out (HQ.out.2 rfl)
          go_wp2_with fail
          refine wp_region_ext (by kernel_rfl) (by kernel_rfl) fun hx => ?_
          repeat (go_big_quiet_step (fail))
          refine wpQuiet_nil ?_
          intro w5 b5
          go_wp2
          go_ret
          exact ⟨rfl, bchain HB.out b5⟩
        · go_wp2_with fail
          refine wp_region_ext (by kernel_rfl) (by kernel_rfl) fun hx => ?_
          repeat (go_big_quiet_step (fail))
          refine wpQuiet_nil ?_
          intro w5 b5
          have HB5 := Lib.hid (bchain HB.out b5)
          clear b5
          go_wp2
          go_roundw
          case rel => exact ⟨n + 1, by omega, by go_num, NX.out (HQ.out.1 (by simp)), HB5⟩
          case measure => simp [intOf]; omega
      obtain rfl : n = xs.length := by omega
      obtain rfl := HT.out (eq_all HLE.out HJ.out)
      go_wp2
      go_ret
      exact ⟨rfl, HB.out⟩
  · obtain rfl := HF.out (fun e => hl (by rw [e]))
    have hd : ¬ (xs.length : Int) = (ys.length : Int) := by omega
    have hd2 : ((xs.length : Int) == (ys.length : Int)) = false := by simp; omega
    have hd3 : ((xs.length : Int) != (ys.length : Int)) = true := by simp; omega
    go_enter Tryd.func57, Tryd.ntmps57
    go_wp2
    go_ret
    exact ⟨rfl, Below.refl _ _⟩

theorem same_iff (L M : Lay) : sameL L M = true ↔ L.times = M.times ∧ L.secs = M.secs ∧ L.sigs = M.sigs ∧ L.flanks = M.flanks ∧ L.exits = M.exits := by
  unfold sameL
  simp only [Bool.and_eq_true, decide_eq_true_eq]
  constructor
  · rintro ⟨⟨⟨⟨h0, h1⟩, h2⟩, h3⟩, h4⟩; exact ⟨h0, h1, h2, h3, h4⟩
  · rintro ⟨h0, h1, h2, h3, h4⟩; exact ⟨⟨⟨⟨h0, h1⟩, h2⟩, h3⟩, h4⟩

set_option maxRecDepth 100000 in
set_option maxHeartbeats 16000000 in
theorem rSame_any (L M : Lay) (p q : Where) (w : World) (hL : LayAt w p L) (hM : LayAt w q M) :
    Calls Tryd.prog 21 #[L.val p, M.val q] w fun e w' => e = .returned (.bool (sameL L M)) ∧ Below w.heap.size w w' := by
  have hi := same_iff L M
  generalize sameL L M = r at hi ⊢
  have hf : ¬ (L.times = M.times ∧ L.secs = M.secs ∧ L.sigs = M.sigs ∧ L.flanks = M.flanks ∧ L.exits = M.exits) → r = false := fun h => by
    cases r
    · rfl
    · exact absurd (hi.1 rfl) h
  have ht := hi.2
  have m0 : L.secs.length ≤ 9223372036854775807 := Nat.le_trans hL.l0.1 hL.l0.2
  have m1 : L.sigs.length ≤ 9223372036854775807 := Nat.le_trans hL.l1.1 hL.l1.2
  have m2 : L.exits.length ≤ 9223372036854775807 := Nat.le_trans hL.l2.1 hL.l2.2
  have m3 : L.flanks.length ≤ 9223372036854775807 := Nat.le_trans hL.l3.1 hL.l3.2
  have hX := (BoxL.make (W := w) (L := L) (p := p) (n := w.heap.size) 29 rfl).below (bself (o := .cells (M.cells q).toArray 29))
  have hZ := BoxL.make (W := w.alloc (.cells (L.cells p).toArray 29)) (L := M) (p := q) (n := w.heap.size + 1) 29 (by simp)
  have HF := Lib.hid hf
  have HT := Lib.hid ht
  have HL := Lib.hid hL
  have HM := Lib.hid hM
  clear hi hf ht hL hM
  obtain ⟨a0, a1, a2, a3, p0, p1, p2, p3⟩ := p
  obtain ⟨b0, b1, b2, b3, q0, q1, q2, q3⟩ := q
  unfold Lay.val at *
  unfold Lay.cells at hX hZ
  dsimp only at hX hZ ⊢
  have hlen : (∃ h : L.secs.length = M.secs.length ∧ L.sigs.length = M.sigs.length ∧ L.exits.length = M.exits.length ∧ L.flanks.length = M.flanks.length, L.times = M.times) ∨
      (L.secs.length ≠ M.secs.length) ∨ (L.secs.length = M.secs.length ∧ L.sigs.length ≠ M.sigs.length) ∨ (L.secs.length = M.secs.length ∧ L.sigs.length = M.sigs.length ∧ L.exits.length ≠ M.exits.length) ∨
      (L.secs.length = M.secs.length ∧ L.sigs.length = M.sigs.length ∧ L.exits.length = M.exits.length ∧ L.flanks.length ≠ M.flanks.length) ∨ (L.secs.length = M.secs.length ∧ L.sigs.length = M.sigs.length ∧ L.exits.length = M.exits.length ∧ L.flanks.length = M.flanks.length ∧ L.times ≠ M.times) := by
    by_cases g0 : L.secs.length = M.secs.length
    · by_cases g1 : L.sigs.length = M.sigs.length
      · by_cases g2 : L.exits.length = M.exits.length
        · by_cases g3 : L.flanks.length = M.flanks.length
          · by_cases g4 : L.times = M.times
            · exact .inl ⟨⟨g0, g1, g2, g3⟩, g4⟩
            · exact .inr (.inr (.inr (.inr (.inr ⟨g0, g1, g2, g3, g4⟩))))
          · exact .inr (.inr (.inr (.inr (.inl ⟨g0, g1, g2, g3⟩))))
        · exact .inr (.inr (.inr (.inl ⟨g0, g1, g2⟩)))
      · exact .inr (.inr (.inl ⟨g0, g1⟩))
    · exact .inr (.inl g0)
  rcases hlen with ⟨⟨g0, g1, g2, g3⟩, g4⟩ | g0 | ⟨g0, g1⟩ | ⟨g0, g1, g2⟩ | ⟨g0, g1, g2, g3⟩ | ⟨g0, g1, g2, g3, g4⟩
  rotate_left
  · obtain rfl := HF.out (fun e => g0 (by rw [e.2.1]))
    have dq0 : ((L.secs.length : Int) == (M.secs.length : Int)) = false := by simp; omega
    have dn0 : ((L.secs.length : Int) != (M.secs.length : Int)) = true := by simp; omega
    have dm0 : ¬ (L.secs.length : Int) = (M.secs.length : Int) := by omega
    clear g0 HF HT HL HM hX hZ
    go_enter Tryd.func21, Tryd.ntmps21
    go_wp2
    go_ret
    exact ⟨rfl, bchain bself bself⟩
  · obtain rfl := HF.out (fun e => g1 (by rw [e.2.2.1]))
    have dq0 : ((L.secs.length : Int) == (M.secs.length : Int)) = true := by simp; omega
    have dn0 : ((L.secs.length : Int) != (M.secs.length : Int)) = false := by simp; omega
    have dq1 : ((L.sigs.length : Int) == (M.sigs.length : Int)) = false := by simp; omega
    have dn1 : ((L.sigs.length : Int) != (M.sigs.length : Int)) = true := by simp; omega
    have dm1 : ¬ (L.sigs.length : Int) = (M.sigs.length : Int) := by omega
    clear g0 g1 HF HT HL HM hX hZ
    go_enter Tryd.func21, Tryd.ntmps21
    go_wp2
    go_ret
    exact ⟨rfl, bchain bself bself⟩
  · obtain rfl := HF.out (fun e => g2 (by rw [e.2.2.2.2]))
    have dq0 : ((L.secs.length : Int) == (M.secs.length : Int)) = true := by simp; omega
    have dn0 : ((L.secs.length : Int) != (M.secs.length : Int)) = false := by simp; omega
    have dq1 : ((L.sigs.length : Int) == (M.sigs.length : Int)) = true := by simp; omega
    have dn1 : ((L.sigs.length : Int) != (M.sigs.length : Int)) = false := by simp; omega
    have dq2 : ((L.exits.length : Int) == (M.exits.length : Int)) = false := by simp; omega
    have dn2 : ((L.exits.length : Int) != (M.exits.length : Int)) = true := by simp; omega
    have dm2 : ¬ (L.exits.length : Int) = (M.exits.length : Int) := by omega
    clear g0 g1 g2 HF HT HL HM hX hZ
    go_enter Tryd.func21, Tryd.ntmps21
    go_wp2
    go_ret
    exact ⟨rfl, bchain bself bself⟩
  · obtain rfl := HF.out (fun e => g3 (by rw [e.2.2.2.1]))
    have dq0 : ((L.secs.length : Int) == (M.secs.length : Int)) = true := by simp; omega
    have dn0 : ((L.secs.length : Int) != (M.secs.length : Int)) = false := by simp; omega
    have dq1 : ((L.sigs.length : Int) == (M.sigs.length : Int)) = true := by simp; omega
    have dn1 : ((L.sigs.length : Int) != (M.sigs.length : Int)) = false := by simp; omega
    have dq2 : ((L.exits.length : Int) == (M.exits.length : Int)) = true := by simp; omega
    have dn2 : ((L.exits.length : Int) != (M.exits.length : Int)) = false := by simp; omega
    have dq3 : ((L.flanks.length : Int) == (M.flanks.length : Int)) = false := by simp; omega
    have dn3 : ((L.flanks.length : Int) != (M.flanks.length : Int)) = true := by simp; omega
    have dm3 : ¬ (L.flanks.length : Int) = (M.flanks.length : Int) := by omega
    clear g0 g1 g2 g3 HF HT HL HM hX hZ
    go_enter Tryd.func21, Tryd.ntmps21
    go_wp2
    go_ret
    exact ⟨rfl, bchain bself bself⟩
  · obtain rfl := HF.out (fun e => g4 e.1)
    have dq0 : ((L.secs.length : Int) == (M.secs.length : Int)) = true := by simp; omega
    have dn0 : ((L.secs.length : Int) != (M.secs.length : Int)) = false := by simp; omega
    have dq1 : ((L.sigs.length : Int) == (M.sigs.length : Int)) = true := by simp; omega
    have dn1 : ((L.sigs.length : Int) != (M.sigs.length : Int)) = false := by simp; omega
    have dq2 : ((L.exits.length : Int) == (M.exits.length : Int)) = true := by simp; omega
    have dn2 : ((L.exits.length : Int) != (M.exits.length : Int)) = false := by simp; omega
    have dq3 : ((L.flanks.length : Int) == (M.flanks.length : Int)) = true := by simp; omega
    have dn3 : ((L.flanks.length : Int) != (M.flanks.length : Int)) = false := by simp; omega
    have dt : decide (L.times = M.times) = false := decide_eq_false g4
    clear g0 g1 g2 g3 g4 HF HT HL HM hX hZ
    go_enter Tryd.func21, Tryd.ntmps21
    go_wp2
    go_ret
    exact ⟨rfl, bchain bself bself⟩
  have HLE := Lib.hid (⟨g0, g1, g2, g3⟩ : _ ∧ _ ∧ _ ∧ _)
  have HTM := Lib.hid g4
  have dq0 : ((L.secs.length : Int) == (M.secs.length : Int)) = true := by simp; omega
  have dn0 : ((L.secs.length : Int) != (M.secs.length : Int)) = false := by simp; omega
  have dq1 : ((L.sigs.length : Int) == (M.sigs.length : Int)) = true := by simp; omega
  have dn1 : ((L.sigs.length : Int) != (M.sigs.length : Int)) = false := by simp; omega
  have dq2 : ((L.exits.length : Int) == (M.exits.length : Int)) = true := by simp; omega
  have dn2 : ((L.exits.length : Int) != (M.exits.length : Int)) = false := by simp; omega
  have dq3 : ((L.flanks.length : Int) == (M.flanks.length : Int)) = true := by simp; omega
  have dn3 : ((L.flanks.length : Int) != (M.flanks.length : Int)) = false := by simp; omega
  have dt : decide (L.times = M.times) = true := decide_eq_true g4
  have ln0 : M.secs.length ≤ L.secs.length := by omega
  have lm0 : L.secs.length ≤ M.secs.length := by omega
  have ln1 : M.sigs.length ≤ L.sigs.length := by omega
  have lm1 : L.sigs.length ≤ M.sigs.length := by omega
  have ln2 : M.exits.length ≤ L.exits.length := by omega
  have lm2 : L.exits.length ≤ M.exits.length := by omega
  have ln3 : M.flanks.length ≤ L.flanks.length := by omega
  have lm3 : L.flanks.length ≤ M.flanks.length := by omega
  clear g0 g1 g2 g3 g4
  go_enter Tryd.func21, Tryd.ntmps21
  go_wp2_with fail
  clear dq0 dn0 dq1 dn1 dq2 dn2 dq3 dn3 dt
  obtain ⟨Y, hY⟩ : ∃ Y, Y = (w.alloc (.cells #[.slice a0 L.secs.length p0, .slice a1 L.sigs.length p1, .slice a2 L.exits.length p2, .slice a3 L.flanks.length p3, .int .i64 L.t0, .int .i64 L.t1, .int .i64 L.t2, .int .i64 L.t3, .int .i64 L.t4, .int .i64 L.t5, .int .i64 L.t6] 29)).alloc (.cells #[.slice b0 M.secs.length q0, .slice b1 M.sigs.length q1, .slice b2 M.exits.length q2, .slice b3 M.flanks.length q3, .int .i64 M.t0, .int .i64 M.t1, .int .i64 M.t2, .int .i64 M.t3, .int .i64 M.t4, .int .i64 M.t5, .int .i64 M.t6] 29) := ⟨_, rfl⟩
  have HB : Hid (Below w.heap.size w Y) := Lib.hid (by rw [hY]; exact bchain bself bself)
  have HX : Hid (BoxL Y w.heap.size L ⟨a0, a1, a2, a3, p0, p1, p2, p3⟩) := Lib.hid (by rw [hY]; exact hX)
  have HZ : Hid (BoxL Y (w.heap.size + 1) M ⟨b0, b1, b2, b3, q0, q1, q2, q3⟩) := Lib.hid (by rw [hY]; exact hZ)
  rw [← hY]
  clear hY hX hZ
  go_loopw [5] (fun c wr => ∃ n : Nat, n ≤ L.secs.length ∧ c = .int .i64 n ∧ Hid (∀ (j : Nat) (x y : Sec), j < n → L.secs[j]? = some x → M.secs[j]? = some y → x = y) ∧ Hid (Below Y.heap.size Y wr)) (fun c _ => L.secs.length - (intOf c).toNat)
  case atStart => exact ⟨0, Nat.zero_le _, rfl, Lib.hid (fun j x y hj => absurd hj (Nat.not_lt_zero _)), Lib.hid (Below.refl _ _)⟩
  case round =>
    obtain ⟨n0, hn, rfl, HJ, HBr⟩ := hrel
    obtain ⟨V, rfl⟩ : ∃ V : World, V = wr := ⟨_, rfl⟩
    have xL := HX.out.below HBr.out
    have xM := HZ.out.below HBr.out
    have lw := xL.1
    have lz := xM.1
    have rL := xL.2 0 _ rfl
    have rM := xM.2 0 _ rfl
    dsimp only at rL rM
    have BV := Lib.hid (bchain HB.out HBr.out)
    clear xL xM
    by_cases hlt : n0 < L.secs.length
    · have hlt2 : n0 < M.secs.length := by omega
      obtain ⟨bx, bxo, hAbx, hrowbx⟩ := HL.out.secs.get (j := n0) (by omega)
      dsimp only at hAbx
      subst hAbx
      obtain ⟨x, hx⟩ : ∃ x, L.secs[n0]? = some x := ⟨L.secs[n0]'(by omega), List.getElem?_eq_getElem (by omega)⟩
      have c0 : V.cell? ⟨bx, bxo + n0 * 11, none⟩ = some (.int .u8 x.k) := (hrowbx.below BV.out).2 n0 x hx 0 _ rfl
      have c1 : V.cell? ⟨bx, bxo + n0 * 11 + 1, none⟩ = some (.int .i64 x.s0) := (hrowbx.below BV.out).2 n0 x hx 1 _ rfl
      have c2 : V.cell? ⟨bx, bxo + n0 * 11 + 2, none⟩ = some (.int .i64 x.p0) := (hrowbx.below BV.out).2 n0 x hx 2 _ rfl
      have c3 : V.cell? ⟨bx, bxo + n0 * 11 + 3, none⟩ = some (.int .i64 x.s1) := (hrowbx.below BV.out).2 n0 x hx 3 _ rfl
      have c4 : V.cell? ⟨bx, bxo + n0 * 11 + 4, none⟩ = some (.int .i64 x.p1) := (hrowbx.below BV.out).2 n0 x hx 4 _ rfl
      have c5 : V.cell? ⟨bx, bxo + n0 * 11 + 5, none⟩ = some (.int .i64 x.s2) := (hrowbx.below BV.out).2 n0 x hx 5 _ rfl
      have c6 : V.cell? ⟨bx, bxo + n0 * 11 + 6, none⟩ = some (.int .i64 x.p2) := (hrowbx.below BV.out).2 n0 x hx 6 _ rfl
      have c7 : V.cell? ⟨bx, bxo + n0 * 11 + 7, none⟩ = some (.int .i64 x.s3) := (hrowbx.below BV.out).2 n0 x hx 7 _ rfl
      have c8 : V.cell? ⟨bx, bxo + n0 * 11 + 8, none⟩ = some (.int .i64 x.p3) := (hrowbx.below BV.out).2 n0 x hx 8 _ rfl
      have c9 : V.cell? ⟨bx, bxo + n0 * 11 + 9, none⟩ = some (.int .i64 x.c0) := (hrowbx.below BV.out).2 n0 x hx 9 _ rfl
      have c10 : V.cell? ⟨bx, bxo + n0 * 11 + 10, none⟩ = some (.int .i64 x.c1) := (hrowbx.below BV.out).2 n0 x hx 10 _ rfl
      have lbx : bx < V.heap.size := (hrowbx.below BV.out).1
      obtain ⟨bz, bzo, hAbz, hrowbz⟩ := HM.out.secs.get (j := n0) (by omega)
      dsimp only at hAbz
      subst hAbz
      obtain ⟨y, hy⟩ : ∃ y, M.secs[n0]? = some y := ⟨M.secs[n0]'(by omega), List.getElem?_eq_getElem (by omega)⟩
      have d0 : V.cell? ⟨bz, bzo + n0 * 11, none⟩ = some (.int .u8 y.k) := (hrowbz.below BV.out).2 n0 y hy 0 _ rfl
      have d1 : V.cell? ⟨bz, bzo + n0 * 11 + 1, none⟩ = some (.int .i64 y.s0) := (hrowbz.below BV.out).2 n0 y hy 1 _ rfl
      have d2 : V.cell? ⟨bz, bzo + n0 * 11 + 2, none⟩ = some (.int .i64 y.p0) := (hrowbz.below BV.out).2 n0 y hy 2 _ rfl
      have d3 : V.cell? ⟨bz, bzo + n0 * 11 + 3, none⟩ = some (.int .i64 y.s1) := (hrowbz.below BV.out).2 n0 y hy 3 _ rfl
      have d4 : V.cell? ⟨bz, bzo + n0 * 11 + 4, none⟩ = some (.int .i64 y.p1) := (hrowbz.below BV.out).2 n0 y hy 4 _ rfl
      have d5 : V.cell? ⟨bz, bzo + n0 * 11 + 5, none⟩ = some (.int .i64 y.s2) := (hrowbz.below BV.out).2 n0 y hy 5 _ rfl
      have d6 : V.cell? ⟨bz, bzo + n0 * 11 + 6, none⟩ = some (.int .i64 y.p2) := (hrowbz.below BV.out).2 n0 y hy 6 _ rfl
      have d7 : V.cell? ⟨bz, bzo + n0 * 11 + 7, none⟩ = some (.int .i64 y.s3) := (hrowbz.below BV.out).2 n0 y hy 7 _ rfl
      have d8 : V.cell? ⟨bz, bzo + n0 * 11 + 8, none⟩ = some (.int .i64 y.p3) := (hrowbz.below BV.out).2 n0 y hy 8 _ rfl
      have d9 : V.cell? ⟨bz, bzo + n0 * 11 + 9, none⟩ = some (.int .i64 y.c0) := (hrowbz.below BV.out).2 n0 y hy 9 _ rfl
      have d10 : V.cell? ⟨bz, bzo + n0 * 11 + 10, none⟩ = some (.int .i64 y.c1) := (hrowbz.below BV.out).2 n0 y hy 10 _ rfl
      have lbz : bz < V.heap.size := (hrowbz.below BV.out).1
      have hq : ∃ q, decide (x = y) = q ∧ (q = true → x = y) ∧ (q = false → x ≠ y) := ⟨_, rfl, of_decide_eq_true, of_decide_eq_false⟩
      obtain ⟨q, hq1, hq2, hq3⟩ := hq
      have HQ := Lib.hid (⟨hq2, hq3⟩ : _ ∧ _)
      have next : x = y → Hid (∀ (j : Nat) (x y : Sec), j < n0 + 1 → L.secs[j]? = some x → M.secs[j]? = some y → x = y) := fun h => Lib.hid fun j x' y' hj hx' hy' => by
        by_cases e : j = n0
        · subst e
          rw [hx] at hx'
          rw [hy] at hy'
          cases hx'
          cases hy'
          exact h
        · exact HJ.out j x' y' (by omega) hx' hy'
      have hne : x ≠ y → r = false := fun h => HF.out (fun e => ne_at hx hy h e.2.1)
      have NX := Lib.hid next
      have HNE := Lib.hid hne
      clear next hne hx hy hrowbx hrowbz hq2 hq3
      cases q
      · obtain rfl := HNE.out (HQ.out.2 rfl)
        go_wp2_with fail
        refine wp_region_ext (by kernel_rfl) (by kernel_rfl) fun hx => ?_
        repeat (go_big_quiet_step (fail))
        refine wpQuiet_nil ?_
        intro w5 b5
        have HB5 := Lib.hid (bchain HBr.out b5)
        clear b5
        go_wp2
        go_ret
        exact ⟨rfl, bchain HB.out HB5.out⟩
      · go_wp2_with fail
        refine wp_region_ext (by kernel_rfl) (by kernel_rfl) fun hx => ?_
        repeat (go_big_quiet_step (fail))
        refine wpQuiet_nil ?_
        intro w5 b5
        have HB5 := Lib.hid (bchain HBr.out b5)
        clear b5
        go_wp2
        go_roundw
        case rel => exact ⟨n0 + 1, by omega, by go_num, NX.out (HQ.out.1 (by simp)), HB5⟩
        case measure => simp [intOf]; omega
    obtain rfl : n0 = L.secs.length := by omega
    have HE0 : Hid (L.secs = M.secs) := Lib.hid (eq_all HLE.out.1 HJ.out)
    go_wp2_with fail
    clear rL rM lw lz hlt hn BV HJ
    obtain ⟨V0, rfl⟩ : ∃ V0 : World, V0 = V := ⟨_, rfl⟩
    have HBs0 := HBr
    clear HBr
    go_loopw [6] (fun c wr => ∃ n : Nat, n ≤ L.sigs.length ∧ c = .int .i64 n ∧ Hid (∀ (j : Nat) (x y : Prt), j < n → L.sigs[j]? = some x → M.sigs[j]? = some y → x = y) ∧ Hid (Below Y.heap.size Y wr)) (fun c _ => L.sigs.length - (intOf c).toNat)
    case atStart => exact ⟨0, Nat.zero_le _, rfl, Lib.hid (fun j x y hj => absurd hj (Nat.not_lt_zero _)), HBs0⟩
    case round =>
      obtain ⟨n1, hn, rfl, HJ, HBr⟩ := hrel
      obtain ⟨V, rfl⟩ : ∃ V : World, V = wr := ⟨_, rfl⟩
      have xL := HX.out.below HBr.out
      have xM := HZ.out.below HBr.out
      have lw := xL.1
      have lz := xM.1
      have rL := xL.2 1 _ rfl
      have rM := xM.2 1 _ rfl
      dsimp only at rL rM
      have BV := Lib.hid (bchain HB.out HBr.out)
      clear xL xM
      by_cases hlt : n1 < L.sigs.length
      · have hlt2 : n1 < M.sigs.length := by omega
        obtain ⟨bx, bxo, hAbx, hrowbx⟩ := HL.out.sigs.get (j := n1) (by omega)
        dsimp only at hAbx
        subst hAbx
        obtain ⟨x, hx⟩ : ∃ x, L.sigs[n1]? = some x := ⟨L.sigs[n1]'(by omega), List.getElem?_eq_getElem (by omega)⟩
        have c0 : V.cell? ⟨bx, bxo + n1 * 2, none⟩ = some (.int .i64 x.s) := (hrowbx.below BV.out).2 n1 x hx 0 _ rfl
        have c1 : V.cell? ⟨bx, bxo + n1 * 2 + 1, none⟩ = some (.int .i64 x.p) := (hrowbx.below BV.out).2 n1 x hx 1 _ rfl
        have lbx : bx < V.heap.size := (hrowbx.below BV.out).1
        obtain ⟨bz, bzo, hAbz, hrowbz⟩ := HM.out.sigs.get (j := n1) (by omega)
        dsimp only at hAbz
        subst hAbz
        obtain ⟨y, hy⟩ : ∃ y, M.sigs[n1]? = some y := ⟨M.sigs[n1]'(by omega), List.getElem?_eq_getElem (by omega)⟩
        have d0 : V.cell? ⟨bz, bzo + n1 * 2, none⟩ = some (.int .i64 y.s) := (hrowbz.below BV.out).2 n1 y hy 0 _ rfl
        have d1 : V.cell? ⟨bz, bzo + n1 * 2 + 1, none⟩ = some (.int .i64 y.p) := (hrowbz.below BV.out).2 n1 y hy 1 _ rfl
        have lbz : bz < V.heap.size := (hrowbz.below BV.out).1
        have hq : ∃ q, decide (x = y) = q ∧ (q = true → x = y) ∧ (q = false → x ≠ y) := ⟨_, rfl, of_decide_eq_true, of_decide_eq_false⟩
        obtain ⟨q, hq1, hq2, hq3⟩ := hq
        have HQ := Lib.hid (⟨hq2, hq3⟩ : _ ∧ _)
        have next : x = y → Hid (∀ (j : Nat) (x y : Prt), j < n1 + 1 → L.sigs[j]? = some x → M.sigs[j]? = some y → x = y) := fun h => Lib.hid fun j x' y' hj hx' hy' => by
          by_cases e : j = n1
          · subst e
            rw [hx] at hx'
            rw [hy] at hy'
            cases hx'
            cases hy'
            exact h
          · exact HJ.out j x' y' (by omega) hx' hy'
        have hne : x ≠ y → r = false := fun h => HF.out (fun e => ne_at hx hy h e.2.2.1)
        have NX := Lib.hid next
        have HNE := Lib.hid hne
        clear next hne hx hy hrowbx hrowbz hq2 hq3
        cases q
        · obtain rfl := HNE.out (HQ.out.2 rfl)
          go_wp2_with fail
          refine wp_region_ext (by kernel_rfl) (by kernel_rfl) fun hx => ?_
          repeat (go_big_quiet_step (fail))
          refine wpQuiet_nil ?_
          intro w5 b5
          have HB5 := Lib.hid (bchain HBr.out b5)
          clear b5
          go_wp2
          go_ret
          exact ⟨rfl, bchain HB.out HB5.out⟩
        · go_wp2_with fail
          refine wp_region_ext (by kernel_rfl) (by kernel_rfl) fun hx => ?_
          repeat (go_big_quiet_step (fail))
          refine wpQuiet_nil ?_
          intro w5 b5
          have HB5 := Lib.hid (bchain HBr.out b5)
          clear b5
          go_wp2
          go_roundw
          case rel => exact ⟨n1 + 1, by omega, by go_num, NX.out (HQ.out.1 (by simp)), HB5⟩
          case measure => simp [intOf]; omega
      obtain rfl : n1 = L.sigs.length := by omega
      have HE1 : Hid (L.sigs = M.sigs) := Lib.hid (eq_all HLE.out.2.1 HJ.out)
      go_wp2_with fail
      clear rL rM lw lz hlt hn BV HJ
      obtain ⟨V1, rfl⟩ : ∃ V1 : World, V1 = V := ⟨_, rfl⟩
      have HBs1 := HBr
      clear HBr
      go_loopw [7] (fun c wr => ∃ n : Nat, n ≤ L.exits.length ∧ c = .int .i64 n ∧ Hid (∀ (j : Nat) (x y : Ext'), j < n → L.exits[j]? = some x → M.exits[j]? = some y → x = y) ∧ Hid (Below Y.heap.size Y wr)) (fun c _ => L.exits.length - (intOf c).toNat)
      case atStart => exact ⟨0, Nat.zero_le _, rfl, Lib.hid (fun j x y hj => absurd hj (Nat.not_lt_zero _)), HBs1⟩
      case round =>
        obtain ⟨n2, hn, rfl, HJ, HBr⟩ := hrel
        obtain ⟨V, rfl⟩ : ∃ V : World, V = wr := ⟨_, rfl⟩
        have xL := HX.out.below HBr.out
        have xM := HZ.out.below HBr.out
        have lw := xL.1
        have lz := xM.1
        have rL := xL.2 2 _ rfl
        have rM := xM.2 2 _ rfl
        dsimp only at rL rM
        have BV := Lib.hid (bchain HB.out HBr.out)
        clear xL xM
        by_cases hlt : n2 < L.exits.length
        · have hlt2 : n2 < M.exits.length := by omega
          obtain ⟨esx, hesx, hAtx, hSlx⟩ := HL.out.exits
          have hlenx : esx.length = L.exits.length := by rw [← hesx, List.length_map]
          obtain ⟨bx, bxo, hAbx, hrowbx⟩ := hAtx.get (j := n2) (by omega)
          dsimp only at hAbx
          subst hAbx
          obtain ⟨yx, hyx⟩ : ∃ y, esx[n2]? = some y := ⟨esx[n2]'(by omega), List.getElem?_eq_getElem (by omega)⟩
          obtain ⟨x, vx⟩ := yx
          have hx : L.exits[n2]? = some x := by rw [← hesx, List.getElem?_map, hyx]; rfl
          have c0 : V.cell? ⟨bx, bxo + n2 * 3, none⟩ = some (.int .i64 x.s) := (hrowbx.below BV.out).2 n2 _ hyx 0 _ rfl
          have c1 : V.cell? ⟨bx, bxo + n2 * 3 + 1, none⟩ = some (.int .i64 x.p) := (hrowbx.below BV.out).2 n2 _ hyx 1 _ rfl
          have c2 : V.cell? ⟨bx, bxo + n2 * 3 + 2, none⟩ = some vx := (hrowbx.below BV.out).2 n2 _ hyx 2 _ rfl
          have hslx : Sl w 3 Stp.enc vx x.over := hSlx _ (List.mem_of_getElem? hyx)
          have lbx : bx < V.heap.size := (hrowbx.below BV.out).1
          obtain ⟨esy, hesy, hAty, hSly⟩ := HM.out.exits
          have hleny : esy.length = M.exits.length := by rw [← hesy, List.length_map]
          obtain ⟨bz, bzo, hAbz, hrowbz⟩ := hAty.get (j := n2) (by omega)
          dsimp only at hAbz
          subst hAbz
          obtain ⟨yy, hyy⟩ : ∃ y, esy[n2]? = some y := ⟨esy[n2]'(by omega), List.getElem?_eq_getElem (by omega)⟩
          obtain ⟨y, vy⟩ := yy
          have hy : M.exits[n2]? = some y := by rw [← hesy, List.getElem?_map, hyy]; rfl
          have d0 : V.cell? ⟨bz, bzo + n2 * 3, none⟩ = some (.int .i64 y.s) := (hrowbz.below BV.out).2 n2 _ hyy 0 _ rfl
          have d1 : V.cell? ⟨bz, bzo + n2 * 3 + 1, none⟩ = some (.int .i64 y.p) := (hrowbz.below BV.out).2 n2 _ hyy 1 _ rfl
          have d2 : V.cell? ⟨bz, bzo + n2 * 3 + 2, none⟩ = some vy := (hrowbz.below BV.out).2 n2 _ hyy 2 _ rfl
          have hsly : Sl w 3 Stp.enc vy y.over := hSly _ (List.mem_of_getElem? hyy)
          have lbz : bz < V.heap.size := (hrowbz.below BV.out).1
          have h5 := fun w1 (b : Below w.heap.size w w1) => (show ∃ A A' cap cap', vx = .slice A x.over.length cap ∧ vy = .slice A' y.over.length cap' ∧ (At w 3 Stp.enc A x.over ∧ At w 3 Stp.enc A' y.over ∧ x.over.length ≤ 9223372036854775807) from by
            obtain ⟨A, cap, e, h1, h2, h3⟩ := hslx
            obtain ⟨A', cap', e', _, _, h3'⟩ := hsly
            exact ⟨A, A', cap, cap', e, e', h3, h3', Nat.le_trans h1 h2⟩)
          obtain ⟨A, A', cap, cap', rfl, rfl, hA1, hA2, hm5⟩ := h5 w (Below.refl _ _)
          clear h5 hslx hsly
          have h6 := fun w1 (b : Below w.heap.size w w1) => rSteps_any A A' cap cap' x.over y.over w1 (hA1.below b) (hA2.below b) hm5
          have hxy : x = y ↔ (x.s = y.s ∧ x.p = y.p) ∧ x.over = y.over := by
            obtain ⟨x0, x1, x2⟩ := x
            obtain ⟨y0, y1, y2⟩ := y
            simp only [Ext'.mk.injEq]
            constructor
            · rintro ⟨h1, h2, h3⟩; exact ⟨⟨h1, h2⟩, h3⟩
            · rintro ⟨⟨h1, h2⟩, h3⟩; exact ⟨h1, h2, h3⟩
          have hq : ∃ q, decide (x.s = y.s ∧ x.p = y.p) = q ∧ (q = true → x.s = y.s ∧ x.p = y.p) ∧ (q = false → ¬ (x.s = y.s ∧ x.p = y.p)) := ⟨_, rfl, of_decide_eq_true, of_decide_eq_false⟩
          obtain ⟨q, hq1, hq2, hq3⟩ := hq
          have ho : ∃ o, o = decide (x.over = y.over) ∧ (o = true → x.over = y.over) ∧ (o = false → ¬ x.over = y.over) := ⟨_, rfl, of_decide_eq_true, of_decide_eq_false⟩
          obtain ⟨o, ho1, ho2, ho3⟩ := ho
          rw [← ho1] at h6
          have H6 := Lib.hid h6
          have HQ := Lib.hid (⟨hxy, hq2, hq3, ho2, ho3⟩ : _ ∧ _ ∧ _ ∧ _ ∧ _)
          have next : x = y → Hid (∀ (j : Nat) (x y : Ext'), j < n2 + 1 → L.exits[j]? = some x → M.exits[j]? = some y → x = y) := fun h => Lib.hid fun j x' y' hj hx' hy' => by
            by_cases e : j = n2
            · subst e
              rw [hx] at hx'
              rw [hy] at hy'
              cases hx'
              cases hy'
              exact h
            · exact HJ.out j x' y' (by omega) hx' hy'
          have hne : x ≠ y → r = false := fun h => HF.out (fun e => ne_at hx hy h e.2.2.2.2)
          have NX := Lib.hid next
          have HNE := Lib.hid hne
          clear next hne hx hy hrowbx hrowbz hq2 hq3 hxy ho1 ho2 ho3 hA1 hA2 h6 hyx hyy hSlx hSly hAtx hAty hesx hesy hlenx hleny
          cases q
          · obtain rfl := HNE.out (fun h => HQ.out.2.2.1 rfl (HQ.out.1.1 h).1)
            go_wp2_with fail
            refine wp_region_ext (by kernel_rfl) (by kernel_rfl) fun hx => ?_
            repeat (go_big_quiet_step (fail))
            refine wpQuiet_nil ?_
            intro w5 b5
            have HB5 := Lib.hid (bchain HBr.out b5)
            clear b5
            go_wp2
            go_ret
            exact ⟨rfl, bchain HB.out HB5.out⟩
          · cases o
            · obtain rfl := HNE.out (fun h => HQ.out.2.2.2.2 rfl (HQ.out.1.1 h).2)
              go_wp2_with fail
              refine wp_region_ext (by kernel_rfl) (by kernel_rfl) fun hx => ?_
              repeat (go_big_quiet_step ((go_at_call 57; exact Calls.ext (H6.out _ (bchain BV.out (Ext.below _))))))
              refine wpQuiet_nil ?_
              intro w5 b5
              have HB5 := Lib.hid (bchain HBr.out b5)
              clear b5
              go_wp2
              go_ret
              exact ⟨rfl, bchain HB.out HB5.out⟩
            · go_wp2_with fail
              refine wp_region_ext (by kernel_rfl) (by kernel_rfl) fun hx => ?_
              repeat (go_big_quiet_step ((go_at_call 57; exact Calls.ext (H6.out _ (bchain BV.out (Ext.below _))))))
              refine wpQuiet_nil ?_
              intro w5 b5
              have HB5 := Lib.hid (bchain HBr.out b5)
              clear b5
              go_wp2
              go_roundw
              case rel => exact ⟨n2 + 1, by omega, by go_num, NX.out (HQ.out.1.2 ⟨HQ.out.2.1 (by simp), HQ.out.2.2.2.1 (by simp)⟩), HB5⟩
              case measure => simp [intOf]; omega
        obtain rfl : n2 = L.exits.length := by omega
        have HE2 : Hid (L.exits = M.exits) := Lib.hid (eq_all HLE.out.2.2.1 HJ.out)
        go_wp2_with fail
        clear rL rM lw lz hlt hn BV HJ
        obtain ⟨V2, rfl⟩ : ∃ V2 : World, V2 = V := ⟨_, rfl⟩
        have HBs2 := HBr
        clear HBr
        go_loopw [8] (fun c wr => ∃ n : Nat, n ≤ L.flanks.length ∧ c = .int .i64 n ∧ Hid (∀ (j : Nat) (x y : Flk), j < n → L.flanks[j]? = some x → M.flanks[j]? = some y → x = y) ∧ Hid (Below Y.heap.size Y wr)) (fun c _ => L.flanks.length - (intOf c).toNat)
        case atStart => exact ⟨0, Nat.zero_le _, rfl, Lib.hid (fun j x y hj => absurd hj (Nat.not_lt_zero _)), HBs2⟩
        case round =>
          obtain ⟨n3, hn, rfl, HJ, HBr⟩ := hrel
          obtain ⟨V, rfl⟩ : ∃ V : World, V = wr := ⟨_, rfl⟩
          have xL := HX.out.below HBr.out
          have xM := HZ.out.below HBr.out
          have lw := xL.1
          have lz := xM.1
          have rL := xL.2 3 _ rfl
          have rM := xM.2 3 _ rfl
          dsimp only at rL rM
          have BV := Lib.hid (bchain HB.out HBr.out)
          clear xL xM
          by_cases hlt : n3 < L.flanks.length
          · have hlt2 : n3 < M.flanks.length := by omega
            obtain ⟨bx, bxo, hAbx, hrowbx⟩ := HL.out.flanks.get (j := n3) (by omega)
            dsimp only at hAbx
            subst hAbx
            obtain ⟨x, hx⟩ : ∃ x, L.flanks[n3]? = some x := ⟨L.flanks[n3]'(by omega), List.getElem?_eq_getElem (by omega)⟩
            have c0 : V.cell? ⟨bx, bxo + n3 * 4, none⟩ = some (.int .i64 x.s) := (hrowbx.below BV.out).2 n3 x hx 0 _ rfl
            have c1 : V.cell? ⟨bx, bxo + n3 * 4 + 1, none⟩ = some (.int .i64 x.way) := (hrowbx.below BV.out).2 n3 x hx 1 _ rfl
            have c2 : V.cell? ⟨bx, bxo + n3 * 4 + 2, none⟩ = some (.int .i64 x.pt) := (hrowbx.below BV.out).2 n3 x hx 2 _ rfl
            have c3 : V.cell? ⟨bx, bxo + n3 * 4 + 3, none⟩ = some (.int .i64 x.pos) := (hrowbx.below BV.out).2 n3 x hx 3 _ rfl
            have lbx : bx < V.heap.size := (hrowbx.below BV.out).1
            obtain ⟨bz, bzo, hAbz, hrowbz⟩ := HM.out.flanks.get (j := n3) (by omega)
            dsimp only at hAbz
            subst hAbz
            obtain ⟨y, hy⟩ : ∃ y, M.flanks[n3]? = some y := ⟨M.flanks[n3]'(by omega), List.getElem?_eq_getElem (by omega)⟩
            have d0 : V.cell? ⟨bz, bzo + n3 * 4, none⟩ = some (.int .i64 y.s) := (hrowbz.below BV.out).2 n3 y hy 0 _ rfl
            have d1 : V.cell? ⟨bz, bzo + n3 * 4 + 1, none⟩ = some (.int .i64 y.way) := (hrowbz.below BV.out).2 n3 y hy 1 _ rfl
            have d2 : V.cell? ⟨bz, bzo + n3 * 4 + 2, none⟩ = some (.int .i64 y.pt) := (hrowbz.below BV.out).2 n3 y hy 2 _ rfl
            have d3 : V.cell? ⟨bz, bzo + n3 * 4 + 3, none⟩ = some (.int .i64 y.pos) := (hrowbz.below BV.out).2 n3 y hy 3 _ rfl
            have lbz : bz < V.heap.size := (hrowbz.below BV.out).1
            have hq : ∃ q, decide (x = y) = q ∧ (q = true → x = y) ∧ (q = false → x ≠ y) := ⟨_, rfl, of_decide_eq_true, of_decide_eq_false⟩
            obtain ⟨q, hq1, hq2, hq3⟩ := hq
            have HQ := Lib.hid (⟨hq2, hq3⟩ : _ ∧ _)
            have next : x = y → Hid (∀ (j : Nat) (x y : Flk), j < n3 + 1 → L.flanks[j]? = some x → M.flanks[j]? = some y → x = y) := fun h => Lib.hid fun j x' y' hj hx' hy' => by
              by_cases e : j = n3
              · subst e
                rw [hx] at hx'
                rw [hy] at hy'
                cases hx'
                cases hy'
                exact h
              · exact HJ.out j x' y' (by omega) hx' hy'
            have hne : x ≠ y → r = false := fun h => HF.out (fun e => ne_at hx hy h e.2.2.2.1)
            have NX := Lib.hid next
            have HNE := Lib.hid hne
            clear next hne hx hy hrowbx hrowbz hq2 hq3
            cases q
            · obtain rfl := HNE.out (HQ.out.2 rfl)
              go_wp2_with fail
              refine wp_region_ext (by kernel_rfl) (by kernel_rfl) fun hx => ?_
              repeat (go_big_quiet_step (fail))
              refine wpQuiet_nil ?_
              intro w5 b5
              have HB5 := Lib.hid (bchain HBr.out b5)
              clear b5
              go_wp2
              go_ret
              exact ⟨rfl, bchain HB.out HB5.out⟩
            · go_wp2_with fail
              refine wp_region_ext (by kernel_rfl) (by kernel_rfl) fun hx => ?_
              repeat (go_big_quiet_step (fail))
              refine wpQuiet_nil ?_
              intro w5 b5
              have HB5 := Lib.hid (bchain HBr.out b5)
              clear b5
              go_wp2
              go_roundw
              case rel => exact ⟨n3 + 1, by omega, by go_num, NX.out (HQ.out.1 (by simp)), HB5⟩
              case measure => simp [intOf]; omega
          obtain rfl : n3 = L.flanks.length := by omega
          have HE3 : Hid (L.flanks = M.flanks) := Lib.hid (eq_all HLE.out.2.2.2 HJ.out)
          obtain rfl := HT.out ⟨HTM.out, HE0.out, HE1.out, HE3.out, HE2.out⟩
          go_wp2
          go_ret
          exact ⟨rfl, BV.out⟩
end Go.Proofs.YtkphihbimdffjaaDoor
