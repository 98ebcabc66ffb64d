/-
  lockbarref06.section, times.
-/
import Derived.Test.YtkphihbimdffjaaDoorRef6
import Derived.Test.YtkphihbimdffjaaDoorRight
namespace Go.Proofs.YtkphihbimdffjaaDoor
open Go.RowKit Go.Shelf

def jokT (L : Lay) (c : Sec) (i : Nat) : Bool := decide (c.S i < 0) || hasB L (c.S i) (c.P i)
def secR (L : Lay) (c : Sec) : Bool := jokT L c 0 && jokT L c 1 && jokT L c 2 && jokT L c 3 && rightT c
theorem secR_facts (L : Lay) (c : Sec) : (∀ i, i < 4 → jokT L c i = false → secR L c = false) ∧ ((∀ i, i < 4 → jokT L c i = true) → secR L c = rightT c) := by
  unfold secR
  refine ⟨fun i hi h => ?_, fun h => ?_⟩
  · obtain rfl | rfl | rfl | rfl : i = 0 ∨ i = 1 ∨ i = 2 ∨ i = 3 := by omega
    all_goals simp [h]
  · rw [h 0 (by omega), h 1 (by omega), h 2 (by omega), h 3 (by omega)]
    simp

set_option maxRecDepth 100000 in
set_option maxHeartbeats 8000000 in
theorem rSection_any (L : Lay) (p : Where) (c : Sec) (w : World) (hL : LayAt w p L) :
    Calls Tryd.prog 45 #[L.val p, .agg c.enc.toArray] w fun e w' => e = .returned (.bool (secR L c)) ∧ Below w.heap.size w w' := by
  have hr := secR_facts L c
  generalize secR L c = r at hr ⊢
  have ht := fun (s q : Int) w1 (b : Below w.heap.size w w1) => rThere_any L p s q w1 (hL.below b)
  have h5 := fun w1 => rRight5_any c w1
  have hjt : ∀ i, jokT L c i = (decide (c.S i < 0) || hasB L (c.S i) (c.P i)) := fun _ => rfl
  have HR := Lib.hid hr
  have HT := Lib.hid ht
  have H5 := Lib.hid h5
  have HJT := Lib.hid hjt
  have hX := (BoxL.make (W := w) (L := L) (p := p) (n := w.heap.size) 29 rfl).below (bself (o := .cells c.enc.toArray 39))
  have hS := BoxS.make (w.alloc (.cells (L.cells p).toArray 29)) c
  rw [World.size_alloc] at hS
  clear hr ht h5 hjt hL
  unfold Sec.enc at *
  unfold Lay.val at *
  go_enter Tryd.func45, Tryd.ntmps45
  go_wp2_with fail
  obtain ⟨Y, hY⟩ : ∃ Y, Y = (w.alloc (.cells (L.cells p).toArray 29)).alloc (.cells #[.int .u8 c.k, .int .i64 c.s0, .int .i64 c.p0, .int .i64 c.s1, .int .i64 c.p1, .int .i64 c.s2, .int .i64 c.p2, .int .i64 c.s3, .int .i64 c.p3, .int .i64 c.c0, .int .i64 c.c1] 39) := ⟨_, rfl⟩
  have HB : Hid (Below w.heap.size w Y) := Lib.hid (by rw [hY]; exact bchain bself bself)
  have HX : Hid (BoxL Y w.heap.size L p) := Lib.hid (by rw [hY]; exact hX)
  have HS : Hid (BoxS Y (w.heap.size + 1) c) := Lib.hid (by rw [hY]; exact hS)
  have hY' : (w.alloc (.cells #[.slice p.a0 L.secs.length p.c0, .slice p.a1 L.sigs.length p.c1, .slice p.a2 L.exits.length p.c2, .slice p.a3 L.flanks.length p.c3, .int .i64 L.t0, .int .i64 L.t1, .int .i64 L.t2, .int .i64 L.t3, .int .i64 L.t4, .int .i64 L.t5, .int .i64 L.t6] 29)).alloc (.cells #[.int .u8 c.k, .int .i64 c.s0, .int .i64 c.p0, .int .i64 c.s1, .int .i64 c.p1, .int .i64 c.s2, .int .i64 c.p2, .int .i64 c.s3, .int .i64 c.p3, .int .i64 c.c0, .int .i64 c.c1] 39) = Y := hY.symm
  rw [hY']
  clear hY hY' hX hS
  go_loopw [5] (fun x5 wr => ∃ n : Nat, n ≤ 4 ∧ x5 = .int .i64 n ∧ Hid (∀ j, j < n → jokT L c j = true) ∧ Hid (Below Y.heap.size Y wr)) (fun x5 _ => 4 - (intOf x5).toNat)
  case atStart => exact ⟨0, by omega, rfl, Lib.hid (fun j hj => absurd hj (Nat.not_lt_zero _)), Lib.hid (Below.refl _ _)⟩
  case round =>
    obtain ⟨n, hn, rfl, HJ, HBr⟩ := hrel
    obtain ⟨V, rfl⟩ : ∃ V : World, V = wr := ⟨_, rfl⟩
    have xS := HS.out.below HBr.out
    have xL := HX.out.below HBr.out
    have lg := xS.1
    have lw := xL.1
    by_cases hn4 : n < 4
    · obtain ⟨cS, cP⟩ := xS.ports n hn4
      obtain ⟨r0, r1, r2, r3, r4, r5, r6, r7, r8, r9, r10⟩ := xL.cells
      have hjn := HJT.out n
      have hrf := HR.out.1 n hn4
      generalize c.S n = sn at cS cP hjn
      generalize c.P n = pn at cP hjn
      have hm := HT.out sn pn
      obtain ⟨jt, hjte⟩ : ∃ jt, jt = jokT L c n := ⟨_, rfl⟩
      rw [← hjte] at hjn hrf
      have next : jt = true → Hid (∀ j, j < n + 1 → jokT L c j = true) := fun h => Lib.hid fun j hj => by
        by_cases e : j = n
        · subst e; rw [← hjte]; exact h
        · exact HJ.out j (by omega)
      have NX := Lib.hid next
      clear hjte xS xL next
      have hn3 : (n : Int) < 4 := by omega
      have BV := Lib.hid (bchain HB.out HBr.out)
      by_cases h0 : 0 ≤ sn
      · have d0 : decide (0 ≤ sn) = true := decide_eq_true h0
        rw [show decide (sn < 0) = false from decide_eq_false (by omega), Bool.false_or] at hjn
        rw [← hjn] at hm
        have HM := Lib.hid hm
        clear hm hjn
        go_wp2_with fail
        refine wp_region_ext (by kernel_rfl) (by kernel_rfl) fun hx => ?_
        repeat (go_big_quiet_step ((go_at_call 46; exact Calls.ext (HM.out _ (bchain BV.out (Ext.below _))))))
        refine wpQuiet_nil ?_
        intro w5 b5
        have HB5 := Lib.hid (bchain HBr.out b5)
        clear b5
        cases jt
        · obtain rfl := hrf rfl
          go_wp2
          go_ret
          exact ⟨rfl, bchain HB.out HB5.out⟩
        · go_wp2
          go_roundw
          case rel => exact ⟨n + 1, by omega, by go_num, NX.out (by simp), HB5⟩
          case measure => simp [intOf]; omega
      · have d0 : decide (0 ≤ sn) = false := decide_eq_false h0
        have ht : jt = true := by rw [hjn, show decide (sn < 0) = true from decide_eq_true (by omega)]; rfl
        subst ht
        clear hm hjn hrf
        go_wp2_with fail
        refine wp_region_ext (by kernel_rfl) (by kernel_rfl) fun hx => ?_
        repeat (go_big_quiet_step (fail))
        refine wpQuiet_nil ?_
        intro w5 b5
        have HB5 := Lib.hid (bchain HBr.out b5)
        clear b5
        go_wp2
        go_roundw
        case rel => exact ⟨n + 1, by omega, by go_num, NX.out (by simp), HB5⟩
        case measure => simp [intOf]; omega
    obtain rfl : n = 4 := by omega
    obtain rfl := HR.out.2 HJ.out
    obtain ⟨t0, t1, t2, t3, t4, t5, t6, t7, t8, t9, t10⟩ := xS.cells
    clear xS xL
    go_wp2_with fail
    (with_reducible refine (H5.out _).mono ?_)
    rintro e w1 ⟨rfl, b1⟩
    go_wp2
    go_ret
    exact ⟨rfl, bchain (bchain HB.out HBr.out) b1⟩

set_option maxRecDepth 100000 in
set_option maxHeartbeats 8000000 in
theorem rTimes_any (L : Lay) (w : World) :
    Calls Tryd.prog 49 #[.agg #[.int .i64 L.t0, .int .i64 L.t1, .int .i64 L.t2, .int .i64 L.t3, .int .i64 L.t4, .int .i64 L.t5, .int .i64 L.t6]] w fun e w' => e = .returned (.bool (timesT L)) ∧ Below w.heap.size w w' := by
  have hr : (∀ (j : Nat) (z : Int), L.times[j]? = some z → ¬ (1 ≤ z ∧ z ≤ 1000) → timesT L = false) ∧ ((∀ (j : Nat) (z : Int), j < 7 → L.times[j]? = some z → 1 ≤ z ∧ z ≤ 1000) → timesT L = true) := by
    unfold timesT
    refine ⟨fun j z hj h => ?_, fun h => ?_⟩
    · rw [List.all_eq_false]
      exact ⟨z, List.mem_of_getElem? hj, by simpa using h⟩
    · rw [List.all_eq_true]
      intro z hz
      obtain ⟨j, hj⟩ := List.mem_iff_getElem?.1 hz
      have hlt : j < 7 := by have := (List.getElem?_eq_some_iff.1 hj).1; simpa [Lay.times] using this
      have := h j z hlt hj
      simp
      omega
  have hsome : ∀ j, j < 7 → ∃ z, L.times[j]? = some z := fun j hj => ⟨_, List.getElem?_eq_getElem (by simpa [Lay.times] using hj)⟩
  generalize timesT L = r at hr ⊢
  have HR := Lib.hid hr
  have HS := Lib.hid hsome
  have hc : ∀ (W : World) (j : Nat) (z : Int), L.times[j]? = some z → ((W.alloc (.cells #[.int .i64 L.t0, .int .i64 L.t1, .int .i64 L.t2, .int .i64 L.t3, .int .i64 L.t4, .int .i64 L.t5, .int .i64 L.t6] 27)).alloc (.cells #[.int .i64 L.t0, .int .i64 L.t1, .int .i64 L.t2, .int .i64 L.t3, .int .i64 L.t4, .int .i64 L.t5, .int .i64 L.t6] 109)).cell? ⟨W.heap.size + 1, j, none⟩ = some (.int .i64 z) := fun W j z hj => by
    rw [World.cell?_alloc_at _ _ _ _ (by simp)]
    have hlt : j < 7 := by have := (List.getElem?_eq_some_iff.1 hj).1; simpa [Lay.times] using this
    obtain rfl | rfl | rfl | rfl | rfl | rfl | rfl : j = 0 ∨ j = 1 ∨ j = 2 ∨ j = 3 ∨ j = 4 ∨ j = 5 ∨ j = 6 := by omega
    all_goals (simp [Lay.times] at hj; subst hj; rfl)
  have HC := Lib.hid (hc w)
  clear hr hc hsome
  go_enter Tryd.func49, Tryd.ntmps49
  go_wp2_with fail
  obtain ⟨Y, hY⟩ : ∃ Y, Y = (w.alloc (.cells #[.int .i64 L.t0, .int .i64 L.t1, .int .i64 L.t2, .int .i64 L.t3, .int .i64 L.t4, .int .i64 L.t5, .int .i64 L.t6] 27)).alloc (.cells #[.int .i64 L.t0, .int .i64 L.t1, .int .i64 L.t2, .int .i64 L.t3, .int .i64 L.t4, .int .i64 L.t5, .int .i64 L.t6] 109) := ⟨_, rfl⟩
  have HB : Hid (Below w.heap.size w Y) := Lib.hid (by rw [hY]; exact bchain bself bself)
  rw [← hY] at HC ⊢
  have lg : w.heap.size + 1 < Y.heap.size := by rw [hY]; simp
  clear hY
  go_loop [4] (fun x4 => ∃ n : Nat, n ≤ 7 ∧ x4 = .int .i64 n ∧ Hid (∀ (j : Nat) (z : Int), j < n → L.times[j]? = some z → 1 ≤ z ∧ z ≤ 1000)) (fun x4 => 7 - (intOf x4).toNat)
  case atStart => exact ⟨0, by omega, rfl, Lib.hid (fun j z hj => absurd hj (Nat.not_lt_zero _))⟩
  case round =>
    obtain ⟨n, hn, rfl, HJ⟩ := hrel
    by_cases hn7 : n < 7
    · obtain ⟨z, hz⟩ := HS.out n hn7
      have c0 := HC.out n z hz
      have hrf := HR.out.1 n z hz
      have hn8 : (n : Int) < 7 := by omega
      have next : 1 ≤ z ∧ z ≤ 1000 → Hid (∀ (j : Nat) (y : Int), j < n + 1 → L.times[j]? = some y → 1 ≤ y ∧ y ≤ 1000) := fun h => Lib.hid fun j y hj hy => by
        by_cases e : j = n
        · subst e
          rw [hz] at hy
          cases hy
          exact h
        · exact HJ.out j y (by omega) hy
      have NX := Lib.hid next
      have HRF := Lib.hid hrf
      clear next hz hrf
      by_cases h0 : 1 ≤ z
      · have d0 : decide (z < 1) = false := decide_eq_false (by omega)
        by_cases h1 : z ≤ 1000
        · have d1 : decide (1000 < z) = false := decide_eq_false (by omega)
          go_wp2
          go_round
          case rel => exact ⟨n + 1, by omega, by go_num, NX.out ⟨h0, h1⟩⟩
          case measure => simp [intOf]; omega
        · have d1 : decide (1000 < z) = true := decide_eq_true (by omega)
          obtain rfl := HRF.out (fun h => h1 h.2)
          go_wp2
          go_ret
          exact ⟨rfl, HB.out⟩
      · have d0 : decide (z < 1) = true := decide_eq_true (by omega)
        obtain rfl := HRF.out (fun h => h0 h.1)
        go_wp2
        go_ret
        exact ⟨rfl, HB.out⟩
    obtain rfl : n = 7 := by omega
    obtain rfl := HR.out.2 HJ.out
    go_wp2
    go_ret
    exact ⟨rfl, HB.out⟩
end Go.Proofs.YtkphihbimdffjaaDoor
