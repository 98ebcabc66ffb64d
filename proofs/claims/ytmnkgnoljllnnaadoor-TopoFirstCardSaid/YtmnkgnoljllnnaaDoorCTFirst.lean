/-
  The walk of TopoFirst.
-/
import Derived.Test.YtmnkgnoljllnnaaDoorM5

namespace Go.Proofs.YtmnkgnoljllnnaaDoor
open Go.RowKit Go.Shelf

theorem first_pos {P : Nat → Nat → Bool} {n : Nat} (h : 0 ≤ firstDup P n) : ∃ k : Nat, firstDup P n = (k : Int) ∧ 0 < k ∧ k < n := by
  have key : ∀ m, ∀ k ∈ dups P m, 0 < k ∧ k < m := by
    intro m
    induction m with
    | zero => intro k hk; cases hk
    | succ m ih =>
      intro k hk
      unfold dups at hk
      rcases List.mem_append.1 hk with hk | hk
      · have := ih k hk; exact ⟨this.1, by omega⟩
      · cases hd : dupAt P m with
        | false => rw [hd] at hk; cases hk
        | true =>
          rw [hd, if_pos rfl, List.mem_singleton] at hk
          subst hk
          refine ⟨?_, by omega⟩
          unfold dupAt at hd
          obtain ⟨i, hi, _⟩ := List.any_eq_true.1 hd
          have := List.mem_range.1 hi
          omega
  unfold firstDup at h ⊢
  cases hd : dups P n with
  | nil => rw [hd] at h; simp at h
  | cons a r =>
    have := key n a (by rw [hd]; exact List.mem_cons_self)
    exact ⟨a, rfl, this.1, this.2⟩
theorem idx_pos {α : Type} {p : α → Bool} {xs : List α} (h : 0 ≤ idxOf' p xs) : ∃ k : Nat, idxOf' p xs = (k : Int) ∧ k < xs.length ∧ ∀ x ∈ xs.take k, p x = false := by
  unfold idxOf' at h ⊢
  cases hd : xs.findIdx? p with
  | none => rw [hd] at h; simp at h
  | some k =>
    obtain ⟨hk, h1, h2⟩ := List.findIdx?_eq_some_iff_getElem.1 hd
    refine ⟨k, rfl, hk, fun x hx => ?_⟩
    obtain ⟨j, hj, rfl⟩ := List.mem_iff_getElem.1 hx
    have hjk : j < k := by simp at hj; omega
    have := h2 j hjk
    rw [List.getElem_take]
    simpa using this
/-- What Check tells of a layout whose numbers may be. -/
theorem check_cases {L : Lay} (hR : rightL L = true) : (checkL L = (1, 0, 90) ∧ joinedL L = false) ∨ (checkL L = (0, 0, 0) ∧ joinedL L = true) ∨
    (∃ k : Nat, checkL L = (2, (k : Int), 90) ∧ joinedL L = true ∧ 0 < k ∧ k < L.sigs.length ∧ ∀ j, j < 1 → ruleN L j < 0) ∨ (∃ k : Nat, checkL L = (3, (k : Int), 90) ∧ joinedL L = true ∧ 0 < k ∧ k < L.exits.length ∧ ∀ j, j < 2 → ruleN L j < 0) ∨
    (∃ k : Nat, checkL L = (4, (k : Int), 90) ∧ joinedL L = true ∧ k < L.exits.length ∧ (∀ x ∈ L.exits.take k, overOk L x = true) ∧ ∀ j, j < 3 → ruleN L j < 0) ∨ (∃ k : Nat, checkL L = (5, (k : Int), 90) ∧ joinedL L = true ∧ k < L.flanks.length ∧ ∀ j, j < 4 → ruleN L j < 0) := by
  by_cases h0 : 0 ≤ ruleN L 0
  · have hj : joinedL L = false := by
      cases hx : joinedL L with
      | false => rfl
      | true => have := (rule0_neg L).2 hx; omega
    refine .inl ⟨?_, hj⟩
    rw [check_hit hR (n := 0) (by omega) (fun j hj => absurd hj (Nat.not_lt_zero _)) h0]
    unfold ruleN
    rw [hj]
    rfl
  have hj : joinedL L = true := (rule0_neg L).1 (by omega)
  have a1 : ∀ j, j < 1 → ruleN L j < 0 := fun j hj => by
    obtain rfl : j = 0 := by omega
    omega
  by_cases h1 : 0 ≤ ruleN L 1
  · obtain ⟨k, hk, h2, h3⟩ := first_pos h1
    exact .inr (.inr (.inl ⟨k, by rw [check_hit hR (n := 1) (by omega) a1 h1, ← hk]; rfl, hj, h2, h3, a1⟩))
  have a2 : ∀ j, j < 2 → ruleN L j < 0 := fun j hj => by
    by_cases e : j = 1
    · subst e; omega
    · exact a1 j (by omega)
  by_cases h2 : 0 ≤ ruleN L 2
  · obtain ⟨k, hk, h3, h4⟩ := first_pos h2
    exact .inr (.inr (.inr (.inl ⟨k, by rw [check_hit hR (n := 2) (by omega) a2 h2, ← hk]; rfl, hj, h3, h4, a2⟩)))
  have a3 : ∀ j, j < 3 → ruleN L j < 0 := fun j hj => by
    by_cases e : j = 2
    · subst e; omega
    · exact a2 j (by omega)
  by_cases h3 : 0 ≤ ruleN L 3
  · obtain ⟨k, hk, h4, h5⟩ := idx_pos h3
    exact .inr (.inr (.inr (.inr (.inl ⟨k, by rw [check_hit hR (n := 3) (by omega) a3 h3, ← hk]; rfl, hj, h4, fun x hx => by simpa using h5 x hx, a3⟩))))
  have a4 : ∀ j, j < 4 → ruleN L j < 0 := fun j hj => by
    by_cases e : j = 3
    · subst e; omega
    · exact a3 j (by omega)
  by_cases h4 : 0 ≤ ruleN L 4
  · obtain ⟨k, hk, _, h5⟩ := first_pos h4
    exact .inr (.inr (.inr (.inr (.inr ⟨k, by rw [check_hit hR (n := 4) (by omega) a4 h4, ← hk]; rfl, hj, h5, a4⟩))))
  refine .inr (.inl ⟨check_none hR (fun j hj => ?_), hj⟩)
  by_cases e : j = 4
  · subst e; omega
  · exact a4 j (by omega)

attribute [local go_sem ↓ high] max_two min_two
set_option maxRecDepth 100000 in
set_option maxHeartbeats 16000000 in
theorem topoFirst_walk (L : Lay) (P : Where) (w : World) (hL : LayAt w P L) (KE : Kinds w ∧ JEnd w) :
    Calls Tryd.prog 6 #[L.val P] w fun e w' => e = .returned (.bool true) ∧ Below w.heap.size w w' := by
  have hG := fun w1 (h : Below w.heap.size w w1) => rGreat_of L P w1 (hL.below h)
  have h1 := fun w1 (h : Below w.heap.size w w1) => check_any L P w1 (hL.below h) (KE.1.below h) (KE.2.below h)
  have h2 := fun w1 (h : Below w.heap.size w w1) => rRight_any L P w1 (hL.below h)
  have h3 := fun w1 (h : Below w.heap.size w w1) => rJoined_any L P w1 (hL.below h)
  have h4 := fun w1 (h : Below w.heap.size w w1) => topoRight_any L P w1 (hL.below h) (KE.1.below h) (KE.2.below h)
  have hW := fun w1 (h : Below w.heap.size w w1) => wakes9_any w1 (KE.1.below h) (KE.2.below h)
  have hno : rightL L = false → topoR L = false := fun h => by unfold topoR; rw [check_no h]; rfl
  obtain ⟨q, hq⟩ : ∃ q, q = rightL L := ⟨_, rfl⟩
  obtain ⟨cr, hcr⟩ : ∃ cr, cr = checkL L := ⟨_, rfl⟩
  rw [← hq] at h2 hno
  rw [← hcr] at h1
  have HL := Lib.hid hL
  have HKE := Lib.hid KE
  have m1 := HL.out.l1.2
  have m2 := HL.out.l2.2
  have m3 := HL.out.l3.2
  have m1' := HL.out.l1.1
  have m2' := HL.out.l2.1
  have m3' := HL.out.l3.1
  obtain ⟨a0, a1, a2, a3, p0, p1, p2, p3⟩ := P
  dsimp only at m1 m2 m3 m1' m2' m3'
  unfold Lay.val at hG h1 h2 h3 h4 ⊢
  have HG := Lib.hid hG
  have HC := Lib.hid (⟨h1, h2, h4⟩ : _ ∧ _ ∧ _)
  have HJ3 := Lib.hid h3
  have HW := Lib.hid hW
  have HQ := Lib.hid (⟨hq, hcr, hno⟩ : _ ∧ _ ∧ _)
  clear hG h1 h2 h3 h4 hW hq hcr hno hL KE
  go_enter Tryd.func6, Tryd.ntmps6
  go_wp2_with fail
  (with_reducible refine (HG.out (w.alloc (.cells #[.slice a0 L.secs.length p0, .slice a1 L.sigs.length p1, .slice a2 L.exits.length p2, .slice a3 L.flanks.length p3, .int .i64 L.t0, .int .i64 L.t1, .int .i64 L.t2, .int .i64 L.t3, .int .i64 L.t4, .int .i64 L.t5, .int .i64 L.t6] 29)) bself).mono ?_)
  rintro e w1 ⟨g, rfl, _, b1⟩
  have HB1 := Lib.hid (bnew b1)
  cases g with
  | true =>
    clear b1
    go_wp2_with fail
    (with_reducible refine (HW.out _ HB1.out).mono ?_)
    rintro e w9 ⟨rfl, b9⟩
    have HB9 := Lib.hid (bchain HB1.out b9)
    clear b9
    go_wp2
    go_ret
    exact ⟨rfl, HB9.out⟩
  | false =>
  have hbx : BoxL w1 w.heap.size L ⟨a0, a1, a2, a3, p0, p1, p2, p3⟩ := (BoxL.make (L := L) (p := ⟨a0, a1, a2, a3, p0, p1, p2, p3⟩) _ rfl).below b1
  have HX1 := Lib.hid hbx
  obtain ⟨c0, c1, c2, c3, c4, c5, c6, c7, c8, c9, c10⟩ := hbx.cells
  have lg := hbx.1
  dsimp only at c0 c1 c2 c3
  clear b1 hbx
  go_wp2_with fail
  (with_reducible refine (HC.out.1 _ HB1.out).mono ?_)
  rintro e w2 ⟨rfl, b2⟩
  have HB2 := Lib.hid (bchain HB1.out b2)
  have HX2 := Lib.hid (HX1.out.below b2)
  clear c0 c1 c2 c3 c4 c5 c6 c7 c8 c9 c10 lg b2
  obtain ⟨c0, c1, c2, c3, c4, c5, c6, c7, c8, c9, c10⟩ := HX2.out.cells
  have lg := HX2.out.1
  dsimp only at c0 c1 c2 c3
  go_wp2_with fail
  (with_reducible refine (HC.out.2.1 _ HB2.out).mono ?_)
  rintro e w3 ⟨rfl, b3⟩
  have HB3 := Lib.hid (bchain HB2.out b3)
  have HX3 := Lib.hid (HX2.out.below b3)
  clear c0 c1 c2 c3 c4 c5 c6 c7 c8 c9 c10 lg b3
  obtain ⟨c0, c1, c2, c3, c4, c5, c6, c7, c8, c9, c10⟩ := HX3.out.cells
  have lg := HX3.out.1
  dsimp only at c0 c1 c2 c3
  cases q with
  | false =>
    obtain rfl : cr = (0, 0, 60) := HQ.out.2.1.trans (check_no HQ.out.1.symm)
    have h4 := HC.out.2.2
    rw [HQ.out.2.2 (by trivial)] at h4
    have H4 := Lib.hid h4
    clear h4
    go_wp2_with fail
    (with_reducible refine (H4.out _ HB3.out).mono ?_)
    rintro e w4 ⟨rfl, b4⟩
    have HB4 := Lib.hid (bchain HB3.out b4)
    clear c0 c1 c2 c3 c4 c5 c6 c7 c8 c9 c10 lg b4
    go_wp2_with fail
    (with_reducible refine (HW.out _ HB4.out).mono ?_)
    rintro e w9 ⟨rfl, b9⟩
    have HB9 := Lib.hid (bchain HB4.out b9)
    clear b9
    go_wp2
    go_ret
    exact ⟨rfl, HB9.out⟩
  | true =>
  have HR := Lib.hid HQ.out.1.symm
  rcases check_cases HQ.out.1.symm with ⟨hc, hj⟩ | ⟨hc, hj⟩ | ⟨k, hc, hj, k0, kl, ha⟩ | ⟨k, hc, hj, k0, kl, ha⟩ | ⟨k, hc, hj, kl, hx, ha⟩ | ⟨k, hc, hj, kl, ha⟩
  · have HJC := Lib.hid (HQ.out.2.1.trans hc)
    have HJL := Lib.hid hj
    clear hc hj
    obtain rfl := HJC.out
    have hj3 := HJ3.out
    rw [show joinedL L = false from HJL.out] at hj3
    have HJ4 := Lib.hid hj3
    clear hj3
    go_wp2_with fail
    (with_reducible refine (HJ4.out _ HB3.out).mono ?_)
    rintro e w4 ⟨rfl, b4⟩
    have HB4 := Lib.hid (bchain HB3.out b4)
    have HX4 := Lib.hid (HX3.out.below b4)
    clear c0 c1 c2 c3 c4 c5 c6 c7 c8 c9 c10 lg b4
    obtain ⟨c0, c1, c2, c3, c4, c5, c6, c7, c8, c9, c10⟩ := HX4.out.cells
    have lg := HX4.out.1
    dsimp only at c0 c1 c2 c3
    have HB5 := Lib.hid (bchain HB4.out (bself (w := w4) (o := .cells #[.slice a0 L.secs.length p0, .slice none 0 0, .slice none 0 0, .slice none 0 0, .int .i64 L.t0, .int .i64 L.t1, .int .i64 L.t2, .int .i64 L.t3, .int .i64 L.t4, .int .i64 L.t5, .int .i64 L.t6] 29)))
    go_wp2_with fail
    (with_reducible refine (HW.out _ HB5.out).mono ?_)
    rintro e w9 ⟨rfl, b9⟩
    have HB9 := Lib.hid (bchain HB5.out b9)
    clear b9
    go_wp2
    go_ret
    exact ⟨rfl, HB9.out⟩
  · have HJC := Lib.hid (HQ.out.2.1.trans hc)
    have HJL := Lib.hid hj
    clear hc hj
    obtain rfl := HJC.out
    have hj3 := HJ3.out
    rw [show joinedL L = true from HJL.out] at hj3
    have HJ4 := Lib.hid hj3
    clear hj3
    go_wp2_with fail
    (with_reducible refine (HJ4.out _ HB3.out).mono ?_)
    rintro e w4 ⟨rfl, b4⟩
    have HB4 := Lib.hid (bchain HB3.out b4)
    have HX4 := Lib.hid (HX3.out.below b4)
    clear c0 c1 c2 c3 c4 c5 c6 c7 c8 c9 c10 lg b4
    obtain ⟨c0, c1, c2, c3, c4, c5, c6, c7, c8, c9, c10⟩ := HX4.out.cells
    have lg := HX4.out.1
    dsimp only at c0 c1 c2 c3
    have HB5 := Lib.hid (bchain HB4.out (bself (w := w4) (o := .cells #[.slice a0 L.secs.length p0, .slice none 0 0, .slice none 0 0, .slice none 0 0, .int .i64 L.t0, .int .i64 L.t1, .int .i64 L.t2, .int .i64 L.t3, .int .i64 L.t4, .int .i64 L.t5, .int .i64 L.t6] 29)))
    go_wp2_with fail
    (with_reducible refine (HW.out _ HB5.out).mono ?_)
    rintro e w9 ⟨rfl, b9⟩
    have HB9 := Lib.hid (bchain HB5.out b9)
    clear b9
    go_wp2
    go_ret
    exact ⟨rfl, HB9.out⟩
  · have HJC := Lib.hid (HQ.out.2.1.trans hc)
    have HJL := Lib.hid hj
    have HA := Lib.hid ha
    have dk : decide (0 < (k : Int)) = true := decide_eq_true (by omega)
    have dl : decide ((k : Int) < (L.sigs.length : Int)) = true := decide_eq_true (by omega)
    clear hc hj ha
    obtain rfl := HJC.out
    have hj3 := HJ3.out
    rw [show joinedL L = true from HJL.out] at hj3
    have HJ4 := Lib.hid hj3
    clear hj3
    go_wp2_with fail
    (with_reducible refine (HJ4.out _ HB3.out).mono ?_)
    rintro e w4 ⟨rfl, b4⟩
    have HB4 := Lib.hid (bchain HB3.out b4)
    have HX4 := Lib.hid (HX3.out.below b4)
    clear c0 c1 c2 c3 c4 c5 c6 c7 c8 c9 c10 lg b4
    obtain ⟨c0, c1, c2, c3, c4, c5, c6, c7, c8, c9, c10⟩ := HX4.out.cells
    have lg := HX4.out.1
    dsimp only at c0 c1 c2 c3
    have hMt : topoR (swap L (L.sigs.take 0) (L.exits.take 0) (L.flanks.take 0)) = true := (topoR_iff _).2 ⟨right_take HR.out, rules_take (L := L) (a := 0) (b := 0) (c := 0) (HA.out 0 (by omega)) (.inr List.take_zero) (.inr List.take_zero) (fun x hx => by rw [List.take_zero] at hx; cases hx) (.inr List.take_zero)⟩
    have hMl : LayAt w ⟨a0, none, none, none, p0, 0, 0, 0⟩ (swap L (L.sigs.take 0) (L.exits.take 0) (L.flanks.take 0)) := ⟨HL.out.secs, .inl (show L.sigs.take 0 = [] from List.take_zero), ⟨[], by show _ = L.exits.take 0; simp, .inl rfl, fun e he => by cases he⟩, .inl (show L.flanks.take 0 = [] from List.take_zero), HL.out.l0, by show (L.sigs.take 0).length ≤ 0 ∧ 0 ≤ 9223372036854775807; simp, by show (L.exits.take 0).length ≤ 0 ∧ 0 ≤ 9223372036854775807; simp, by show (L.flanks.take 0).length ≤ 0 ∧ 0 ≤ 9223372036854775807; simp, HL.out.kinds⟩
    have hMc := fun w1 (h : Below w.heap.size w w1) => topoRight_any (swap L (L.sigs.take 0) (L.exits.take 0) (L.flanks.take 0)) ⟨a0, none, none, none, p0, 0, 0, 0⟩ w1 (hMl.below h) (HKE.out.1.below h) (HKE.out.2.below h)
    rw [hMt] at hMc
    replace hMc : ∀ w1, Below w.heap.size w w1 → Calls Tryd.prog 12 #[.agg #[.slice a0 L.secs.length p0, .slice none 0 0, .slice none 0 0, .slice none 0 0, .int .i64 L.t0, .int .i64 L.t1, .int .i64 L.t2, .int .i64 L.t3, .int .i64 L.t4, .int .i64 L.t5, .int .i64 L.t6]] w1 fun e w' => e = .returned (.bool true) ∧ Below w1.heap.size w1 w' := fun w1 h => by
      have h2 := hMc w1 h
      simpa [Lay.val, swap] using h2
    have HM := Lib.hid hMc
    clear hMt hMl hMc
    go_wp2_with fail
    (with_reducible refine (HM.out (w4.alloc (.cells #[.slice a0 L.secs.length p0, .slice none 0 0, .slice none 0 0, .slice none 0 0, .int .i64 L.t0, .int .i64 L.t1, .int .i64 L.t2, .int .i64 L.t3, .int .i64 L.t4, .int .i64 L.t5, .int .i64 L.t6] 29)) (bchain HB4.out bself)).mono ?_)
    rintro e w5 ⟨rfl, b5⟩
    have hx5 := HX4.out.below (bnew b5)
    have HB5 := Lib.hid (bchain HB4.out (bnew b5))
    clear c0 c1 c2 c3 c4 c5 c6 c7 c8 c9 c10 lg b5
    obtain ⟨c0, c1, c2, c3, c4, c5, c6, c7, c8, c9, c10⟩ := hx5.cells
    have lg := hx5.1
    dsimp only at c0 c1 c2 c3
    clear hx5
    go_wp2_with fail
    (with_reducible refine (HW.out _ HB5.out).mono ?_)
    rintro e w9 ⟨rfl, b9⟩
    have HB9 := Lib.hid (bchain HB5.out b9)
    clear b9
    go_wp2
    go_ret
    exact ⟨rfl, HB9.out⟩
  · have HJC := Lib.hid (HQ.out.2.1.trans hc)
    have HJL := Lib.hid hj
    have HA := Lib.hid ha
    have dk : decide (0 < (k : Int)) = true := decide_eq_true (by omega)
    have dl : decide ((k : Int) < (L.exits.length : Int)) = true := decide_eq_true (by omega)
    clear hc hj ha
    obtain rfl := HJC.out
    have hj3 := HJ3.out
    rw [show joinedL L = true from HJL.out] at hj3
    have HJ4 := Lib.hid hj3
    clear hj3
    go_wp2_with fail
    (with_reducible refine (HJ4.out _ HB3.out).mono ?_)
    rintro e w4 ⟨rfl, b4⟩
    have HB4 := Lib.hid (bchain HB3.out b4)
    have HX4 := Lib.hid (HX3.out.below b4)
    clear c0 c1 c2 c3 c4 c5 c6 c7 c8 c9 c10 lg b4
    obtain ⟨c0, c1, c2, c3, c4, c5, c6, c7, c8, c9, c10⟩ := HX4.out.cells
    have lg := HX4.out.1
    dsimp only at c0 c1 c2 c3
    have hMt : topoR (swap L (L.sigs.take L.sigs.length) (L.exits.take 0) (L.flanks.take 0)) = true := (topoR_iff _).2 ⟨right_take HR.out, rules_take (HA.out 0 (by omega)) (.inl (HA.out 1 (by omega))) (.inr List.take_zero) (fun x hx => by rw [List.take_zero] at hx; cases hx) (.inr List.take_zero)⟩
    have hMl : LayAt w ⟨a0, a1, none, none, p0, p1, 0, 0⟩ (swap L (L.sigs.take L.sigs.length) (L.exits.take 0) (L.flanks.take 0)) := ⟨HL.out.secs, HL.out.sigs.take _, ⟨[], by show _ = L.exits.take 0; simp, .inl rfl, fun e he => by cases he⟩, .inl (show L.flanks.take 0 = [] from List.take_zero), HL.out.l0, ⟨by show (L.sigs.take _).length ≤ _; simpa using HL.out.l1.1, HL.out.l1.2⟩, by show (L.exits.take 0).length ≤ 0 ∧ 0 ≤ 9223372036854775807; simp, by show (L.flanks.take 0).length ≤ 0 ∧ 0 ≤ 9223372036854775807; simp, HL.out.kinds⟩
    have hMc := fun w1 (h : Below w.heap.size w w1) => topoRight_any (swap L (L.sigs.take L.sigs.length) (L.exits.take 0) (L.flanks.take 0)) ⟨a0, a1, none, none, p0, p1, 0, 0⟩ w1 (hMl.below h) (HKE.out.1.below h) (HKE.out.2.below h)
    rw [hMt] at hMc
    replace hMc : ∀ w1, Below w.heap.size w w1 → Calls Tryd.prog 12 #[.agg #[.slice a0 L.secs.length p0, .slice a1 L.sigs.length p1, .slice none 0 0, .slice none 0 0, .int .i64 L.t0, .int .i64 L.t1, .int .i64 L.t2, .int .i64 L.t3, .int .i64 L.t4, .int .i64 L.t5, .int .i64 L.t6]] w1 fun e w' => e = .returned (.bool true) ∧ Below w1.heap.size w1 w' := fun w1 h => by
      have h2 := hMc w1 h
      simpa [Lay.val, swap] using h2
    have HM := Lib.hid hMc
    clear hMt hMl hMc
    go_wp2_with fail
    (with_reducible refine (HM.out (w4.alloc (.cells #[.slice a0 L.secs.length p0, .slice a1 L.sigs.length p1, .slice none 0 0, .slice none 0 0, .int .i64 L.t0, .int .i64 L.t1, .int .i64 L.t2, .int .i64 L.t3, .int .i64 L.t4, .int .i64 L.t5, .int .i64 L.t6] 29)) (bchain HB4.out bself)).mono ?_)
    rintro e w5 ⟨rfl, b5⟩
    have hx5 := HX4.out.below (bnew b5)
    have HB5 := Lib.hid (bchain HB4.out (bnew b5))
    clear c0 c1 c2 c3 c4 c5 c6 c7 c8 c9 c10 lg b5
    obtain ⟨c0, c1, c2, c3, c4, c5, c6, c7, c8, c9, c10⟩ := hx5.cells
    have lg := hx5.1
    dsimp only at c0 c1 c2 c3
    clear hx5
    go_wp2_with fail
    (with_reducible refine (HW.out _ HB5.out).mono ?_)
    rintro e w9 ⟨rfl, b9⟩
    have HB9 := Lib.hid (bchain HB5.out b9)
    clear b9
    go_wp2
    go_ret
    exact ⟨rfl, HB9.out⟩
  · have HJC := Lib.hid (HQ.out.2.1.trans hc)
    have HJL := Lib.hid hj
    have HA := Lib.hid ha
    have hk12 : k ≤ 12 := by have := ((right_iff L).1 HR.out).1.2.2.1; omega
    obtain ⟨es0, hes, hAt, hov⟩ := HL.out.exits
    have hlen : es0.length = L.exits.length := by rw [← hes, List.length_map]
    obtain ⟨eb, eo, e0, hrow⟩ := hAt.get (j := 0) (by omega)
    dsimp only at e0
    subst e0
    have dk : decide (0 ≤ (k : Int)) = true := decide_eq_true (by omega)
    have dl : decide ((k : Int) < (L.exits.length : Int)) = true := decide_eq_true (by omega)
    have hcl : minI (maxI (k : Int) 0) (L.exits.length : Int) = (k : Int) := by
      unfold minI maxI
      rw [if_neg (show ¬ ((0 : Int) > (k : Int)) by omega), if_neg (by omega)]
    have kc : (k : Int) ≤ (p2 : Int) := by omega
    have kz : (0 : Int) ≤ (k : Int) := by omega
    have hones : ∀ u ∈ (es0.take k).flatMap Ext'.enc, u.oneCell' = true := by
      intro u hu
      obtain ⟨y, hy, hu⟩ := List.mem_flatMap.1 hu
      obtain ⟨vA, vc, ve, _⟩ := hov y (List.mem_of_mem_take hy)
      simp only [Ext'.enc, List.mem_cons, List.not_mem_nil, or_false] at hu
      rcases hu with rfl | rfl | rfl
      · rfl
      · rfl
      · rw [ve]; rfl
    have hlk : (es0.take k).length = k := by rw [List.length_take, hlen]; omega
    have hrk : RowAt' w 3 Ext'.enc eb eo (es0.take k) := ⟨hrow.1, fun j x hj i v hv => hrow.2 j x (by
      rw [List.getElem?_take] at hj
      split at hj
      · exact hj
      · cases hj) i v hv⟩
    obtain ⟨i0, z0, hi, hz, hs1, hs2, hs3⟩ := info_Exit
    have HI := Lib.hid (⟨hi, hz, hs1, hs2, hs3⟩ : _ ∧ _ ∧ _ ∧ _ ∧ _)
    have HE := Lib.hid (⟨hones, hlk, hrk, hk12⟩ : _ ∧ _ ∧ _ ∧ _)
    have HES := Lib.hid (⟨hes, hov, hx⟩ : _ ∧ _ ∧ _)
    clear hc hj ha hi hz hs1 hs2 hs3 hones hlk hrk hk12 hes hov hlen hrow hAt hx
    obtain rfl := HJC.out
    have hj3 := HJ3.out
    rw [show joinedL L = true from HJL.out] at hj3
    have HJ4 := Lib.hid hj3
    clear hj3
    go_wp2_with fail
    (with_reducible refine (HJ4.out _ HB3.out).mono ?_)
    rintro e w4 ⟨rfl, b4⟩
    have HB4 := Lib.hid (bchain HB3.out b4)
    have HX4 := Lib.hid (HX3.out.below b4)
    clear c0 c1 c2 c3 c4 c5 c6 c7 c8 c9 c10 lg b4
    obtain ⟨c0, c1, c2, c3, c4, c5, c6, c7, c8, c9, c10⟩ := HX4.out.cells
    have lg := HX4.out.1
    dsimp only at c0 c1 c2 c3
    obtain ⟨B0, hB0⟩ : ∃ B0, B0 = w4.alloc (.cells #[.slice a0 L.secs.length p0, .slice a1 L.sigs.length p1, .slice (some ⟨eb, eo, none⟩) L.exits.length p2, .slice none 0 0, .int .i64 L.t0, .int .i64 L.t1, .int .i64 L.t2, .int .i64 L.t3, .int .i64 L.t4, .int .i64 L.t5, .int .i64 L.t6] 29) := ⟨_, rfl⟩
    have hBB : Below w4.heap.size w4 B0 := by rw [hB0]; exact bself
    have hBX : BoxL B0 w4.heap.size (swap L (L.sigs.take L.sigs.length) (L.exits.take L.exits.length) (L.flanks.take 0)) ⟨a0, a1, some ⟨eb, eo, none⟩, none, p0, p1, p2, 0⟩ := by
      rw [hB0]
      have := BoxL.make (W := w4) (L := (swap L (L.sigs.take L.sigs.length) (L.exits.take L.exits.length) (L.flanks.take 0))) (p := ⟨a0, a1, some ⟨eb, eo, none⟩, none, p0, p1, p2, 0⟩) 29 rfl
      simpa [Lay.cells, swap] using this
    have hBF : ∀ o, B0.frozen? ⟨w4.heap.size, o, none⟩ = false := fun o => by rw [hB0]; simp [go_sem]
    have hBS : B0.heap.size = w4.heap.size + 1 := by rw [hB0]; simp
    go_upto_region 13 with fail
    rw [← hB0]
    have hwB : Below w.heap.size w B0 := bchain HB4.out hBB
    have HBB := Lib.hid (⟨hBX, hBF, hBS, hwB⟩ : _ ∧ _ ∧ _ ∧ _)
    have hX4B := HX4.out.below hBB
    clear c0 c1 c2 c3 c4 c5 c6 c7 c8 c9 c10 lg hB0 hBB hBX hBF hwB
    obtain ⟨c0, c1, c2, c3, c4, c5, c6, c7, c8, c9, c10⟩ := hX4B.cells
    have lg := hX4B.1
    dsimp only at c0 c1 c2 c3
    have HXB := Lib.hid hX4B
    have HBS := Lib.hid hBS
    have l4 : w4.heap.size < B0.heap.size := by omega
    clear hX4B hBS
    go_wp2_with (at_builtin; refine wpList_append_own _ rfl _ _ 24 rfl B0.heap.size 40 i0 z0 3 i0.bytes Tryd.underlying24 HI.out.1 HI.out.2.1 HI.out.2.2.1 rfl HI.out.2.2.2.1 (by decide) _ 0 [] rfl ?hown ⟨eb, eo, none⟩ k p2 ((es0.take k).flatMap Ext'.enc) rfl ?x0 ?x1 ?x2 ?x3 ?x4 ?x5 ?_)
    case hown => exact ⟨rfl, .inr ⟨B0.heap.size, 0, #[], rfl, Nat.le_refl _, World.alloc_heap_new _ _, Nat.le_refl _, by unfold maxLen; omega, by simp, by simp⟩⟩
    case x0 => rw [flat_len (enc := Ext'.enc) (k := 3) (fun _ => rfl), HE.out.2.1]
    case x1 =>
      intro j u hu
      have hx := flat_cells (enc := Ext'.enc) (k := 3) (fun _ => rfl) (by decide) HE.out.2.2.1 j u hu
      rw [add_at] at hx ⊢
      exact ((bchain HBB.out.2.2.2 (bself (w := B0))).cell (p := ⟨eb, eo + j, none⟩) HE.out.2.2.1.1).trans hx
    case x2 => exact HE.out.1
    case x3 =>
      have := HE.out.2.2.2
      unfold maxLen
      omega
    case x4 =>
      have h2 := Nat.mul_le_mul HE.out.2.2.2 HI.out.2.2.2.2
      rw [Nat.zero_add]
      omega
    case x5 => simp
    intro v' w5 hown' hgrow _
    have hBw : Below B0.heap.size B0 w5 := (bself (w := B0)).grown hgrow (by simp) (fun j e => by cases e; exact Nat.le_refl _)
    have hown2 : w5.ownsRow B0.heap.size 40 3 v' (es0.take k).length ((es0.take k).flatMap Ext'.enc) := by rw [HE.out.2.1]; exact hown'
    have hsl := at_of_row (enc := Ext'.enc) (k := 3) (fun _ => rfl) (by decide) hown2
    obtain ⟨AA, ccap, rfl, hcap1, hcap2, hAT⟩ := hsl
    have hAb : ∀ b off, AA = some ⟨b, off, none⟩ → B0.heap.size ≤ b := by
      intro b off e
      rcases hown2.2 with ⟨h, _⟩ | ⟨g, cap, cur, h, hb, _⟩
      · injection h with h1
        rw [h1] at e
        cases e
      · injection h with h1
        rw [h1] at e
        cases e
        exact hb
    rw [HE.out.2.1] at hcap1 ⊢
    have hm5 := HBB.out.1.below hBw
    obtain ⟨d0, d1, d2, d3, d4, d5, d6, d7, d8, d9, d10⟩ := (show (w5.cell? ⟨w4.heap.size, 0, none⟩ = some (.slice a0 L.secs.length p0) ∧ w5.cell? ⟨w4.heap.size, 1, none⟩ = some (.slice a1 L.sigs.length p1) ∧ w5.cell? ⟨w4.heap.size, 2, none⟩ = some (.slice (some ⟨eb, eo, none⟩) L.exits.length p2) ∧ w5.cell? ⟨w4.heap.size, 3, none⟩ = some (.slice none 0 0) ∧ w5.cell? ⟨w4.heap.size, 4, none⟩ = some (.int .i64 L.t0) ∧ w5.cell? ⟨w4.heap.size, 5, none⟩ = some (.int .i64 L.t1) ∧ w5.cell? ⟨w4.heap.size, 6, none⟩ = some (.int .i64 L.t2) ∧ w5.cell? ⟨w4.heap.size, 7, none⟩ = some (.int .i64 L.t3) ∧ w5.cell? ⟨w4.heap.size, 8, none⟩ = some (.int .i64 L.t4) ∧ w5.cell? ⟨w4.heap.size, 9, none⟩ = some (.int .i64 L.t5) ∧ w5.cell? ⟨w4.heap.size, 10, none⟩ = some (.int .i64 L.t6)) from by
      refine ⟨?_, ?_, ?_, ?_, ?_, ?_, ?_, ?_, ?_, ?_, ?_⟩
      · exact hm5.2 0 _ rfl
      · simpa [Lay.cells, swap] using hm5.2 1 _ rfl
      · simpa [Lay.cells, swap] using hm5.2 2 _ rfl
      · simpa [Lay.cells, swap] using hm5.2 3 _ rfl
      · exact hm5.2 4 _ rfl
      · exact hm5.2 5 _ rfl
      · exact hm5.2 6 _ rfl
      · exact hm5.2 7 _ rfl
      · exact hm5.2 8 _ rfl
      · exact hm5.2 9 _ rfl
      · exact hm5.2 10 _ rfl)
    have f2 : w5.frozen? ⟨w4.heap.size, 2, none⟩ = false := (hBw.frozen (p := ⟨w4.heap.size, 2, none⟩) l4).trans (HBB.out.2.1 2)
    have l45 : w4.heap.size < w5.heap.size := hm5.1
    have hw4 : w.heap.size < w4.heap.size := HX4.out.1
    obtain ⟨W6, hW6⟩ : ∃ W6, W6 = w5.setCell ⟨w4.heap.size, 2, none⟩ (.slice AA k ccap) := ⟨_, rfl⟩
    have hw6 : Below w.heap.size w W6 := by rw [hW6]; exact (bchain HBB.out.2.2.2 hBw).setCell (p := ⟨w4.heap.size, 2, none⟩) (by dsimp only; omega) _
    have hBX6 : BoxL W6 w.heap.size L ⟨a0, a1, some ⟨eb, eo, none⟩, a3, p0, p1, p2, p3⟩ := by rw [hW6]; exact (HXB.out.below hBw).set (by omega)
    have hA6 : At W6 3 Ext'.enc AA (es0.take k) := by
      rw [hW6]
      rcases hAT with h | ⟨b, off, e, hr⟩
      · exact .inl h
      · exact .inr ⟨b, off, e, hr.set (by have := hAb b off e; omega)⟩
    have hMl : LayAt W6 ⟨a0, a1, AA, none, p0, p1, ccap, 0⟩ (swap L (L.sigs.take L.sigs.length) (L.exits.take k) (L.flanks.take 0)) :=
      ⟨(HL.out.below hw6).secs, (HL.out.below hw6).sigs.take _, ⟨es0.take k, by show _ = L.exits.take k; rw [← HES.out.1, List.map_take], hA6, fun y hy => (HES.out.2.1 y (List.mem_of_mem_take hy)).below hw6⟩, .inl (show L.flanks.take 0 = [] from List.take_zero), HL.out.l0,
        ⟨by show (L.sigs.take _).length ≤ _; simpa using HL.out.l1.1, HL.out.l1.2⟩, ⟨by show (L.exits.take k).length ≤ _; simp; omega, hcap2⟩, by show (L.flanks.take 0).length ≤ 0 ∧ 0 ≤ 9223372036854775807; simp, HL.out.kinds⟩
    have hMt : topoR (swap L (L.sigs.take L.sigs.length) (L.exits.take k) (L.flanks.take 0)) = true := (topoR_iff _).2 ⟨right_take HR.out, rules_take (HA.out 0 (by omega)) (.inl (HA.out 1 (by omega))) (.inl (HA.out 2 (by omega))) HES.out.2.2 (.inr List.take_zero)⟩
    have hMc := topoRight_any _ _ W6 hMl (HKE.out.1.below hw6) (HKE.out.2.below hw6)
    rw [hMt] at hMc
    replace hMc : Calls Tryd.prog 12 #[.agg #[.slice a0 L.secs.length p0, .slice a1 L.sigs.length p1, .slice AA k ccap, .slice none 0 0, .int .i64 L.t0, .int .i64 L.t1, .int .i64 L.t2, .int .i64 L.t3, .int .i64 L.t4, .int .i64 L.t5, .int .i64 L.t6]] W6 fun e w' => e = .returned (.bool true) ∧ Below W6.heap.size W6 w' := by
      have hkk : min k L.exits.length = k := Nat.min_eq_left (by omega)
      simpa [Lay.val, swap, hkk] using hMc
    rw [hW6] at hMc
    have HM := Lib.hid hMc
    have HW6 := Lib.hid (⟨hw6, hBX6, hW6⟩ : _ ∧ _ ∧ _)
    clear hown' hown2 hgrow hcap1 hcap2 hAT hAb hm5 hA6 hMl hMt hMc hW6 hw6 hBX6 hBw c0 c1 c2 c3 c4 c5 c6 c7 c8 c9 c10 lg hw4 hcl
    go_wp2_with fail
    (with_reducible refine HM.out.mono ?_)
    rintro e w7 ⟨rfl, b7⟩
    rw [← HW6.out.2.2] at b7
    have hx7 := HW6.out.2.1.below b7
    have HB5 := Lib.hid (bchain HW6.out.1 b7)
    obtain ⟨c0, c1, c2, c3, c4, c5, c6, c7, c8, c9, c10⟩ := hx7.cells
    have lg := hx7.1
    dsimp only at c0 c1 c2 c3
    clear hx7 b7 d0 d1 d2 d3 d4 d5 d6 d7 d8 d9 d10 f2 l45
    go_wp2_with fail
    (with_reducible refine (HW.out _ HB5.out).mono ?_)
    rintro e w9 ⟨rfl, b9⟩
    have HB9 := Lib.hid (bchain HB5.out b9)
    clear b9
    go_wp2
    go_ret
    exact ⟨rfl, HB9.out⟩
  · have HJC := Lib.hid (HQ.out.2.1.trans hc)
    have HJL := Lib.hid hj
    have HA := Lib.hid ha
    have dk : decide (0 ≤ (k : Int)) = true := decide_eq_true (by omega)
    have dl : decide ((k : Int) < (L.flanks.length : Int)) = true := decide_eq_true (by omega)
    clear hc hj ha
    obtain rfl := HJC.out
    have hj3 := HJ3.out
    rw [show joinedL L = true from HJL.out] at hj3
    have HJ4 := Lib.hid hj3
    clear hj3
    go_wp2_with fail
    (with_reducible refine (HJ4.out _ HB3.out).mono ?_)
    rintro e w4 ⟨rfl, b4⟩
    have HB4 := Lib.hid (bchain HB3.out b4)
    have HX4 := Lib.hid (HX3.out.below b4)
    clear c0 c1 c2 c3 c4 c5 c6 c7 c8 c9 c10 lg b4
    obtain ⟨c0, c1, c2, c3, c4, c5, c6, c7, c8, c9, c10⟩ := HX4.out.cells
    have lg := HX4.out.1
    dsimp only at c0 c1 c2 c3
    have hMt : topoR (swap L (L.sigs.take L.sigs.length) (L.exits.take L.exits.length) (L.flanks.take 0)) = true := (topoR_iff _).2 ⟨right_take HR.out, rules_take (HA.out 0 (by omega)) (.inl (HA.out 1 (by omega))) (.inl (HA.out 2 (by omega))) (fun x hx => (rule3_neg L).1 (HA.out 3 (by omega)) x (List.mem_of_mem_take hx)) (.inr List.take_zero)⟩
    have hMl : LayAt w ⟨a0, a1, a2, none, p0, p1, p2, 0⟩ (swap L (L.sigs.take L.sigs.length) (L.exits.take L.exits.length) (L.flanks.take 0)) := ⟨HL.out.secs, HL.out.sigs.take _, HL.out.exits.take _, .inl (show L.flanks.take 0 = [] from List.take_zero), HL.out.l0, ⟨by show (L.sigs.take _).length ≤ _; simpa using HL.out.l1.1, HL.out.l1.2⟩, ⟨by show (L.exits.take _).length ≤ _; simpa using HL.out.l2.1, HL.out.l2.2⟩, by show (L.flanks.take 0).length ≤ 0 ∧ 0 ≤ 9223372036854775807; simp, HL.out.kinds⟩
    have hMc := fun w1 (h : Below w.heap.size w w1) => topoRight_any (swap L (L.sigs.take L.sigs.length) (L.exits.take L.exits.length) (L.flanks.take 0)) ⟨a0, a1, a2, none, p0, p1, p2, 0⟩ w1 (hMl.below h) (HKE.out.1.below h) (HKE.out.2.below h)
    rw [hMt] at hMc
    replace hMc : ∀ w1, Below w.heap.size w w1 → Calls Tryd.prog 12 #[.agg #[.slice a0 L.secs.length p0, .slice a1 L.sigs.length p1, .slice a2 L.exits.length p2, .slice none 0 0, .int .i64 L.t0, .int .i64 L.t1, .int .i64 L.t2, .int .i64 L.t3, .int .i64 L.t4, .int .i64 L.t5, .int .i64 L.t6]] w1 fun e w' => e = .returned (.bool true) ∧ Below w1.heap.size w1 w' := fun w1 h => by
      have h2 := hMc w1 h
      simpa [Lay.val, swap] using h2
    have HM := Lib.hid hMc
    clear hMt hMl hMc
    go_wp2_with fail
    (with_reducible refine (HM.out (w4.alloc (.cells #[.slice a0 L.secs.length p0, .slice a1 L.sigs.length p1, .slice a2 L.exits.length p2, .slice none 0 0, .int .i64 L.t0, .int .i64 L.t1, .int .i64 L.t2, .int .i64 L.t3, .int .i64 L.t4, .int .i64 L.t5, .int .i64 L.t6] 29)) (bchain HB4.out bself)).mono ?_)
    rintro e w5 ⟨rfl, b5⟩
    have hx5 := HX4.out.below (bnew b5)
    have HB5 := Lib.hid (bchain HB4.out (bnew b5))
    clear c0 c1 c2 c3 c4 c5 c6 c7 c8 c9 c10 lg b5
    obtain ⟨c0, c1, c2, c3, c4, c5, c6, c7, c8, c9, c10⟩ := hx5.cells
    have lg := hx5.1
    dsimp only at c0 c1 c2 c3
    clear hx5
    go_wp2_with fail
    (with_reducible refine (HW.out _ HB5.out).mono ?_)
    rintro e w9 ⟨rfl, b9⟩
    have HB9 := Lib.hid (bchain HB5.out b9)
    clear b9
    go_wp2
    go_ret
    exact ⟨rfl, HB9.out⟩
end Go.Proofs.YtmnkgnoljllnnaaDoor

/-
  TopoFirst: a rule is told just where all ahead of it are kept: joined sections, then signals, exits, overlaps, flanks.
  Conditions: port.kinds and port.none (and join.end, where it is listed) start as the program's text lays them (the tied card; it ties them to the pruned copy that the seat holds).
-/
namespace Go.Proofs.YtmnkgnoljllnnaaDoor
open Go.RowKit Go.WideShapes Go.ChangeShapes Go.ChangeAt Go.WideMaps Go.WideElems Go.Joins Go.Deep

set_option maxRecDepth 100000 in
theorem topoFirst_lifted (os : Os) (started : os.Started) (H : Type) (enc : TypeId × Value → H) :
    ReturnsInHanded {} Tryd.checked os 6 .any (fun w args => (Rows.topoFirstSpec.pre enc Tryd.prog Tryd.f6 [] false w args ∧ laidMetH Tryd.prog laidL w) ∧ sizedMet enc Tryd.prog Tryd.f6 (OpenSpec.ofChange Rows.topoFirstSpec) false w args)
      (Rows.topoFirstSpec.post enc Tryd.prog Tryd.f6 false true false false) := by
  refine law_lifted_laid (C := Tryd.checked) (tb := 4) ownP started (by kernel_rfl) Tryd.func6
    (ChangeSpec.witness_shaped (enc := enc) (C := Tryd.checked) (os := os) (X := fun w _ => laidMetH Tryd.prog laidL w) false (World.doorLaid Tryd.prog 400 os) #[.agg #[.slice none 0 0, .slice none 0 0, .slice none 0 0, .slice none 0 0, .int .i64 0, .int .i64 0, .int .i64 0, .int .i64 0, .int .i64 0, .int .i64 0, .int .i64 0]] 8 rfl (World.shaped_of_RefB (by kernel_rfl) (by kernel_rfl)) (by kernel_rfl) (by kernel_rfl) (by kernel_rfl) (door_met os _))
    laidP (by kernel_rfl) rfl rfl Tryd.underlying4 ?_
  intro W base args ds p hval0 hA0 hlt hL
  have hval : ∀ (j : Nat) t v, Tryd.f6.params[j]? = some t → args[j]? = some v → Value.okWide Tryd.prog W .any base t v := hval0
  have hA : DataW.TrodAll enc Tryd.prog W 0 (fun _ => true) true Tryd.f6.params.toList args.toList ds p := hA0
  clear hval0 hA0
  rw [Tryd.params6] at hA hval
  obtain ⟨vs⟩ := args
  dsimp only at hA
  obtain ⟨v0, vs0, d0, ds0, p0, q0, rfl, rfl, rfl, h0, hA⟩ := trodAll_cons hA
  obtain ⟨rfl, rfl, rfl⟩ := trodAll_nil hA
  obtain ⟨L0, w0, rfl, hl0⟩ := open_layout (hval 0 29 v0 rfl rfl) h0
  exact ⟨⟨rfl, rfl, rfl⟩, topoFirst_walk L0 w0 W hl0 (kinds_of_laid hL)⟩

theorem topoFirst_holds : Rows.TopoFirstSaid :=
  OpenClaim.holds_of_wide 6 Tryd.f6 rfl rfl rfl rfl rfl rfl rfl ⟨rfl, rfl, rfl, rfl, rfl⟩ rfl rfl rfl rfl rfl (by kernel_rfl) Tryd.func6 (by kernel_rfl)
    (of_decide_eq_true (by kernel_rfl)) (by unfold Func.isWrapper; first | (rw [if_pos (by decide +kernel)]; kernel_rfl) | (rw [if_neg (of_decide_eq_false (by kernel_rfl))]; exact ⟨rfl, rfl⟩))
    (fun os started H enc _ => topoFirst_lifted os started H enc)

theorem topoFirst_card : Rows.TopoFirstCardSaid :=
  Claim7.holds_tied_plain_at .later [] [.data, .data, .data] true (true, "3cd35ec731902af1efb8ad1e66760989928f8fbf6ddfd2ac00e438de07536a54") false
    topoFirst_holds (fun _ h => by cases h) (by kernel_rfl) (fun _ h => by cases h) topoFirst_row_tie rfl ⟨rfl, rfl⟩ (by kernel_rfl) rfl
    (fun f fn hf hfn => by
      obtain rfl : f = 6 := Option.some.inj ((show Tryd.prog.funcNamed "lockbar/lockbarlaw09.TopoFirst" = some 6 by kernel_rfl).symm.trans hf) |>.symm
      obtain rfl : fn = Tryd.f6 := (Option.some.inj (Tryd.func6.symm.trans hfn)).symm
      exact ⟨by kernel_rfl, fun j t ht => by
        rw [Tryd.params6] at ht
        have hm : t ∈ [29] := by simpa using Array.mem_of_getElem? ht
        have hall : ([29].all fun u => !Tryd.prog.wantsStandIn u) = true := by kernel_rfl
        exact (show Tryd.prog.wantsStandIn t = false by simpa using List.all_eq_true.1 hall t hm)⟩)
    (by kernel_rfl)
#print axioms topoFirst_card
end Go.Proofs.YtmnkgnoljllnnaaDoor
