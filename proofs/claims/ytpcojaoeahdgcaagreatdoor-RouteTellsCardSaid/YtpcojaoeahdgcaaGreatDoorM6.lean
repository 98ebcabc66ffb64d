/-
  lockbarref07.Joined.
-/
import Derived.Test.YtpcojaoeahdgcaaGreatDoorM5
import Derived.StillTailTactics
import Derived.ArgAppend
import Derived.OwnWalkIn

namespace Go.Proofs.YtpcojaoeahdgcaaGreatDoor
open Go.RowKit Go.Shelf

theorem mem_pj {L : Lay} {s : Int} {j : Nat} : j ∈ pj L s 4 ↔ j < 4 ∧ hasB L s j = true := by
  have key : ∀ n, j ∈ pj L s n ↔ j < n ∧ hasB L s j = true := by
    intro n
    induction n with
    | zero => simp [pj]
    | succ n ih =>
      unfold pj
      rw [List.mem_append, ih]
      by_cases hb : hasB L s (n : Nat) = true
      · rw [if_pos hb, List.mem_singleton]
        constructor
        · rintro (⟨h1, h2⟩ | rfl)
          · exact ⟨by omega, h2⟩
          · exact ⟨by omega, hb⟩
        · rintro ⟨h1, h2⟩
          by_cases e : j = n
          · exact .inr e
          · exact .inl ⟨by omega, h2⟩
      · rw [if_neg hb]
        constructor
        · rintro (⟨h1, h2⟩ | h)
          · exact ⟨by omega, h2⟩
          · cases h
        · rintro ⟨h1, h2⟩
          by_cases e : j = n
          · subst e; exact absurd h2 hb
          · exact .inl ⟨by omega, h2⟩
  exact key 4
theorem kPorts_ge (k : Int) : 0 ≤ kPorts k := by
  unfold kPorts
  split <;> first | omega | (split <;> first | omega | (split <;> omega))
theorem port_of {L : Lay} {i j : Nat} {c : Sec} (hc : L.secs[i]? = some c) (hj : (j : Int) < kPorts c.k) : hasB L (i : Nat) (j : Nat) = true ∧ beyL L (i : Nat) (j : Nat) = ⟨c.S j, c.P j⟩ := by
  have hs : secAt L (i : Nat) = some c := by
    unfold secAt
    rw [if_pos (by omega), Int.toNat_natCast, hc]
  unfold hasB beyL atO
  rw [hs, Option.bind_some, if_pos ⟨by omega, hj⟩]
  exact ⟨rfl, rfl⟩
theorem port_un {L : Lay} {i j : Nat} {c : Sec} (hc : L.secs[i]? = some c) (hj : kPorts c.k ≤ (j : Int)) : hasB L (i : Nat) (j : Nat) = false := by
  have hs : secAt L (i : Nat) = some c := by
    unfold secAt
    rw [if_pos (by omega), Int.toNat_natCast, hc]
  unfold hasB atO
  rw [hs, Option.bind_some, if_neg (by omega)]
  rfl

set_option maxRecDepth 100000 in
set_option maxHeartbeats 16000000 in
theorem rJoined_any (L : Lay) (P : Where) (w : World) (hL : LayAt w P L) :
    Calls Tryz.prog 58 #[L.val P] w fun e w' => e = .returned (.bool (joinedL L)) ∧ Below w.heap.size w w' := by
  have hr := joinedL_facts L
  generalize joinedL L = r at hr ⊢
  have m0 : L.secs.length ≤ 9223372036854775807 := Nat.le_trans hL.l0.1 hL.l0.2
  obtain ⟨a0, a1, a2, a3, p0, p1, p2, p3⟩ := P
  have HR := Lib.hid hr
  have HL := Lib.hid hL
  clear hr hL
  unfold Lay.val
  go_enter Tryz.func58, Tryz.ntmps58
  go_wp2_with fail
  obtain ⟨X, hX⟩ : ∃ X, X = w.alloc (.cells #[.slice a0 L.secs.length p0, .slice a1 L.sigs.length p1, .slice a2 L.exits.length p2, .slice a3 L.flanks.length p3, .int .i64 L.t0, .int .i64 L.t1, .int .i64 L.t2, .int .i64 L.t3, .int .i64 L.t4, .int .i64 L.t5, .int .i64 L.t6] 29) := ⟨_, rfl⟩
  have hBX : Below w.heap.size w X := by rw [hX]; exact bself
  have hBL : BoxL X w.heap.size L ⟨a0, a1, a2, a3, p0, p1, p2, p3⟩ := by rw [hX]; exact BoxL.make (L := L) (p := ⟨a0, a1, a2, a3, p0, p1, p2, p3⟩) _ rfl
  rw [← hX]
  have HX := Lib.hid (⟨hBX, hBL⟩ : _ ∧ _)
  clear hX hBX hBL
  go_loopw [3] (fun c wr => ∃ i : Nat, i ≤ L.secs.length ∧ i ≤ 24 ∧ c = .int .i64 i ∧ Hid (Below X.heap.size X wr) ∧ Hid (∀ j, j < i → secFine L j = true)) (fun c _ => L.secs.length - (intOf c).toNat)
  case atStart => exact ⟨0, Nat.zero_le _, by omega, rfl, Lib.hid (Below.refl _ _), Lib.hid (fun j hj => absurd hj (Nat.not_lt_zero _))⟩
  case round =>
    obtain ⟨i, hi, hi24, rfl, HBr, HJ⟩ := hrel
    have hbx := HX.out.2.below HBr.out
    obtain ⟨c0, c1, c2, c3, c4, c5, c6, c7, c8, c9, c10⟩ := hbx.cells
    have lg := hbx.1
    dsimp only at c0 c1 c2 c3
    clear hbx
    by_cases hlt : i < L.secs.length
    · by_cases h24 : i < 24
      · have d24 : decide ((i : Int) < 24) = true := decide_eq_true (by omega)
        obtain ⟨b, off, e0, hrow⟩ := (HL.out.below (bchain HX.out.1 HBr.out)).secs.get hlt
        dsimp only at e0
        subst e0
        obtain ⟨c, hc⟩ : ∃ c, L.secs[i]? = some c := ⟨L.secs[i], List.getElem?_eq_getElem hlt⟩
        obtain ⟨k0, k1, k2, k3, k4, k5, k6, k7, k8, k9, k10⟩ := sec_cells hrow hc
        have lb := hrow.1
        have hright := rRight5_any c (wr.alloc (.cells c.enc.toArray 73))
        have hsf := secFine_eq hc
        obtain ⟨q, hq⟩ : ∃ q, q = rightT c := ⟨_, rfl⟩
        rw [← hq] at hright hsf
        unfold Sec.enc at hright
        have HRT := Lib.hid hright
        have HC := Lib.hid hc
        clear hright hq hrow hc
        go_wp2_with fail
        (with_reducible refine HRT.out.mono ?_)
        rintro e w1 ⟨rfl, b1⟩
        have hbs : BoxS w1 wr.heap.size c := (BoxS.make wr c).below b1
        have HB1 := Lib.hid (bchain HBr.out (bnew b1))
        clear b1 k0 k1 k2 k3 k4 k5 k6 k7 k8 k9 k10 c0 c1 c2 c3 c4 c5 c6 c7 c8 c9 c10 lg HRT d24
        have HBS := Lib.hid hbs
        cases q with
        | false =>
          obtain rfl : r = false := HR.out.2.1 i hlt (by rw [hsf]; rfl)
          clear hbs hsf
          go_wp2
          go_ret
          exact ⟨rfl, bchain HX.out.1 HB1.out⟩
        | true =>
          rw [Bool.true_and] at hsf
          have HSF := Lib.hid hsf
          clear hbs hsf
          go_wp2_with fail
          obtain ⟨V, hV⟩ : ∃ V, V = w1 := ⟨_, rfl⟩
          rw [← hV] at HB1 HBS ⊢
          have HXI := HB1
          clear hV
          obtain ⟨m, hm⟩ : ∃ m : Nat, kPorts c.k = (m : Int) := ⟨(kPorts c.k).toNat, by have := kPorts_ge c.k; omega⟩
          have hm4 : m ≤ 4 := by have := kPorts_le c.k; omega
          have hcc := HC.out
          have hpo := fun (j : Nat) (h : j < m) => port_of (i := i) (j := j) hcc (by omega)
          have hun := fun (j : Nat) (h : j < 4) (h2 : hasB L (i : Nat) (j : Nat) = true) => show j < m from by
            by_cases e : j < m
            · exact e
            · have := port_un (i := i) (j := j) hcc (by omega)
              rw [this] at h2
              cases h2
          have hports := fun W => rPorts_any c.k W
          rw [hm] at hports
          have HPO := Lib.hid (⟨hpo, hun⟩ : _ ∧ _)
          have HPT := Lib.hid hports
          generalize wr.heap.size = g4 at HBS ⊢
          clear hcc hpo hun hports hm
          go_loopw [5] (fun cc wi => ∃ j : Nat, j ≤ m ∧ cc = .int .i64 j ∧ Hid (Below V.heap.size V wi) ∧ Hid (∀ t, t < j → joinB L (i : Nat) t = true)) (fun cc _ => m - (intOf cc).toNat)
          case atStart => exact ⟨0, by omega, rfl, Lib.hid (Below.refl _ _), Lib.hid (fun j hj => absurd hj (Nat.not_lt_zero _))⟩
          case round =>
            obtain ⟨j, hj, rfl, HBi, HN⟩ := hrel
            obtain ⟨wi, rfl⟩ : ∃ wi : World, wi = wr := ⟨_, rfl⟩
            have hbi := HBS.out.below HBi.out
            obtain ⟨s0, s1, s2, s3, s4, s5, s6, s7, s8, s9, s10⟩ := hbi.cells
            have l4 := hbi.1
            clear hbi s1 s2 s3 s4 s5 s6 s7 s8 s9 s10
            by_cases hjm : j < m
            · go_wp2_with fail
              (with_reducible refine (HPT.out _).mono ?_)
              rintro e w3 ⟨rfl, b3⟩
              have hb3 := HBS.out.below (bchain HBi.out b3)
              have hj4 : j < 4 := by omega
              obtain ⟨s1, s2⟩ := hb3.ports j hj4
              have l43 := hb3.1
              have hz := HPO.out.1 j hjm
              have HB3 := Lib.hid (bchain HBi.out b3)
              have hj44 : (j : Int) < 4 := by omega
              clear hb3 b3 s0 l4
              go_wp2_with fail
              obtain ⟨U, hU⟩ : ∃ U, U = w3.alloc (.cells #[.int .i64 (c.S j), .int .i64 (c.P j)] 49) := ⟨_, rfl⟩
              have BY : Below w3.heap.size w3 U := by rw [hU]; exact bself
              have l6 : w3.heap.size < U.heap.size := by rw [hU]; simp
              have y0 : ∀ V', ClB U V' → V'.cell? ⟨w3.heap.size, 0, none⟩ = some (.int .i64 (c.S j)) := fun V' h => (h.cell (p := ⟨w3.heap.size, 0, none⟩) l6).trans (by rw [hU]; simp [go_sem])
              have y1 : ∀ V', ClB U V' → V'.cell? ⟨w3.heap.size, 1, none⟩ = some (.int .i64 (c.P j)) := fun V' h => (h.cell (p := ⟨w3.heap.size, 1, none⟩) l6).trans (by rw [hU]; simp [go_sem])
              have hXU := bchain HXI.out (bchain HB3.out BY)
              have HLW := Lib.hid (HL.out.below (bchain HX.out.1 hXU))
              have HBX := Lib.hid (HX.out.2.below hXU)
              have hjb := joinB_eq L (i : Nat) j
              have HHB := Lib.hid hz.1
              rw [hz.2] at hjb
              rw [← hU]
              have HBU := Lib.hid (bchain HB3.out BY)
              clear hz hXU s1 s2 l43 hU BY l6
              generalize w3.heap.size = g6 at y0 y1 ⊢
              generalize c.S j = zs at y0 hjb ⊢
              generalize c.P j = zp at y1 hjb ⊢
              dsimp only at hjb
              have HH0 := fun V' (h : ClB U V') => rHas_any L ⟨some ⟨b, off, none⟩, a1, a2, a3, p0, p1, p2, p3⟩ zs zp V' (HLW.out.below h)
              have HY0 := fun V' (h : ClB U V') => rBey_any L ⟨some ⟨b, off, none⟩, a1, a2, a3, p0, p1, p2, p3⟩ zs zp V' (HLW.out.below h)
              by_cases hE : zs = -1 ∧ zp = 0
              · obtain ⟨rfl, rfl⟩ := hE
                have HJB := Lib.hid (show joinB L (i : Nat) j = true by rw [hjb]; simp [endP])
                clear HH0 HY0 hjb
                have hqE : ∀ V', (Op.equalIn 10000 49 (.agg #[.int .i64 (-1), .int .i64 0]) (.agg #[.int .i64 (-1), .int .i64 0])).run Tryz.prog V' = .ok true V' := fun V' => by rw [eqQ_portI]; simp
                focus
                  refine wp_region_rel_below [([(6, none)], none), ([], none), ([(37, some 1), (38, some 0)], none), ([(39, some 0)], none), ([(1, none), (40, some 0)], some (40, true)), ([(6, none), (40, some 1)], some (40, true)), ([(41, some 1), (42, some 0), (40, some 2)], some (40, true)), ([(43, some 0), (40, some 3)], some (40, true)), ([(44, some 0), (40, some 4)], some (40, true)), ([(6, none), (45, some 0)], some (45, false)), ([(46, some 0), (45, some 1)], some (45, false)), ([(3, none), (45, some 2)], some (45, false)), ([(47, some 1), (48, some 0), (45, some 3)], some (45, false)), ([(45, some 4), (49, some 0), (40, some 9)], some (40, true)), ([(50, some 0), (40, some 10)], some (40, true)), ([(1, none), (51, some 0)], some (51, false)), ([(6, none), (51, some 1)], some (51, false)), ([(52, some 1), (53, some 0), (51, some 2)], some (51, false)), ([(3, none), (51, some 3)], some (51, false)), ([(5, none), (51, some 4)], some (51, false)), ([(55, some 1), (56, some 0), (51, some 5)], some (51, false)), ([(54, some 3), (57, some 0), (51, some 6)], some (51, false)), ([(51, some 7), (58, some 0), (40, some 18)], some (40, true)), ([(40, some 19), (59, some 0)], none)] [(0, 60)] (by kernel_rfl) (by kernel_rfl) ?_
                  refine ob_det (c := .agg #[.int .i64 (-1), .int .i64 0]) ?_ ?_
                  · intro ρ W hk hC
                    simp only [seen, obOp]
                    rintro h6
                    replace h6 : ρ (.tmp 6) = .pointer (some ⟨g6, 0, none⟩) := h6.trans rfl
                    exact rel_value (by simp [go_sem, h6, y0 W hC, y1 W hC]) hC
                  refine ob_det (c := .agg #[.int .i64 (-1), .int .i64 0]) ?_ ?_
                  · intro ρ W hk hC
                    simp only [seen, obOp]
                    exact rel_call (f := 54) (args := #[]) (by simp [go_sem, hk.func]) hC (rNone_any W)
                  refine ob_det (c := .bool false) ?_ ?_
                  · intro ρ W hk hC
                    simp only [seen, obOp, List.getD_cons_zero, List.getD_cons_succ]
                    rintro h37 h38
                    exact rel_value (by simp [go_sem, h37, h38, hqE]) hC
                  refine ob_det (c := .bool false) ?_ ?_
                  · intro ρ W hk hC
                    simp only [seen, obOp, List.getD_cons_zero]
                    rintro h39
                    exact rel_value (by simp [go_sem, h39]) hC
                  refine ob_det (c := undef) ?_ ?_
                  · intro ρ W hk hC
                    simp only [seen, obOp, List.getD_cons_zero]
                    rintro h1 h40
                    replace h1 : ρ (.tmp 1) = .pointer (some ⟨w.heap.size, 0, none⟩) := h1.trans rfl
                    exact ⟨fun h => absurd (h.symm.trans h40) (by first | simp | simp [undef]), fun _ => by trivial⟩
                  refine ob_det (c := undef) ?_ ?_
                  · intro ρ W hk hC
                    simp only [seen, obOp, List.getD_cons_zero, List.getD_cons_succ]
                    rintro h6 h40
                    replace h6 : ρ (.tmp 6) = .pointer (some ⟨g6, 0, none⟩) := h6.trans rfl
                    exact ⟨fun h => absurd (h.symm.trans h40) (by first | simp | simp [undef]), fun _ => by trivial⟩
                  refine ob_det (c := undef) ?_ ?_
                  · intro ρ W hk hC
                    simp only [seen, obOp, List.getD_cons_zero, List.getD_cons_succ]
                    rintro h41 h42 h40
                    exact ⟨fun h => absurd (h.symm.trans h40) (by first | simp | simp [undef]), fun _ => by trivial⟩
                  refine ob_det (c := undef) ?_ ?_
                  · intro ρ W hk hC
                    simp only [seen, obOp, List.getD_cons_zero, List.getD_cons_succ]
                    rintro h43 h40
                    exact ⟨fun h => absurd (h.symm.trans h40) (by first | simp | simp [undef]), fun _ => by trivial⟩
                  refine ob_det (c := undef) ?_ ?_
                  · intro ρ W hk hC
                    simp only [seen, obOp, List.getD_cons_zero, List.getD_cons_succ]
                    rintro h44 h40
                    exact ⟨fun h => absurd (h.symm.trans h40) (by first | simp | simp [undef]), fun _ => by trivial⟩
                  refine ob_det (c := undef) ?_ ?_
                  · intro ρ W hk hC
                    simp only [seen, obOp, List.getD_cons_zero]
                    rintro h6 h45
                    replace h6 : ρ (.tmp 6) = .pointer (some ⟨g6, 0, none⟩) := h6.trans rfl
                    exact ⟨fun h => absurd (h.symm.trans h45) (by first | simp | simp [undef]), fun _ => by trivial⟩
                  refine ob_det (c := undef) ?_ ?_
                  · intro ρ W hk hC
                    simp only [seen, obOp, List.getD_cons_zero, List.getD_cons_succ]
                    rintro h46 h45
                    exact ⟨fun h => absurd (h.symm.trans h45) (by first | simp | simp [undef]), fun _ => by trivial⟩
                  refine ob_det (c := undef) ?_ ?_
                  · intro ρ W hk hC
                    simp only [seen, obOp, List.getD_cons_zero, List.getD_cons_succ]
                    rintro h3 h45
                    replace h3 : ρ (.tmp 3) = .int .i64 (i : Nat) := h3.trans rfl
                    exact ⟨fun h => absurd (h.symm.trans h45) (by first | simp | simp [undef]), fun _ => by trivial⟩
                  refine ob_det (c := undef) ?_ ?_
                  · intro ρ W hk hC
                    simp only [seen, obOp, List.getD_cons_zero, List.getD_cons_succ]
                    rintro h47 h48 h45
                    exact ⟨fun h => absurd (h.symm.trans h45) (by first | simp | simp [undef]), fun _ => by trivial⟩
                  refine ob_det (c := undef) ?_ ?_
                  · intro ρ W hk hC
                    simp only [seen, obOp, List.getD_cons_zero, List.getD_cons_succ]
                    rintro h45 h49 h40
                    exact ⟨fun h => absurd (h.symm.trans h40) (by first | simp | simp [undef]), fun _ => by trivial⟩
                  refine ob_det (c := undef) ?_ ?_
                  · intro ρ W hk hC
                    simp only [seen, obOp, List.getD_cons_zero, List.getD_cons_succ]
                    rintro h50 h40
                    exact ⟨fun h => absurd (h.symm.trans h40) (by first | simp | simp [undef]), fun _ => by trivial⟩
                  refine ob_det (c := undef) ?_ ?_
                  · intro ρ W hk hC
                    simp only [seen, obOp, List.getD_cons_zero]
                    rintro h1 h51
                    replace h1 : ρ (.tmp 1) = .pointer (some ⟨w.heap.size, 0, none⟩) := h1.trans rfl
                    exact ⟨fun h => absurd (h.symm.trans h51) (by first | simp | simp [undef]), fun _ => by trivial⟩
                  refine ob_det (c := undef) ?_ ?_
                  · intro ρ W hk hC
                    simp only [seen, obOp, List.getD_cons_zero, List.getD_cons_succ]
                    rintro h6 h51
                    replace h6 : ρ (.tmp 6) = .pointer (some ⟨g6, 0, none⟩) := h6.trans rfl
                    exact ⟨fun h => absurd (h.symm.trans h51) (by first | simp | simp [undef]), fun _ => by trivial⟩
                  refine ob_det (c := undef) ?_ ?_
                  · intro ρ W hk hC
                    simp only [seen, obOp, List.getD_cons_zero, List.getD_cons_succ]
                    rintro h52 h53 h51
                    exact ⟨fun h => absurd (h.symm.trans h51) (by first | simp | simp [undef]), fun _ => by trivial⟩
                  refine ob_det (c := undef) ?_ ?_
                  · intro ρ W hk hC
                    simp only [seen, obOp, List.getD_cons_zero, List.getD_cons_succ]
                    rintro h3 h51
                    replace h3 : ρ (.tmp 3) = .int .i64 (i : Nat) := h3.trans rfl
                    exact ⟨fun h => absurd (h.symm.trans h51) (by first | simp | simp [undef]), fun _ => by trivial⟩
                  refine ob_det (c := undef) ?_ ?_
                  · intro ρ W hk hC
                    simp only [seen, obOp, List.getD_cons_zero, List.getD_cons_succ]
                    rintro h5 h51
                    replace h5 : ρ (.tmp 5) = .int .i64 (j : Nat) := h5.trans rfl
                    exact ⟨fun h => absurd (h.symm.trans h51) (by first | simp | simp [undef]), fun _ => by trivial⟩
                  refine ob_det (c := undef) ?_ ?_
                  · intro ρ W hk hC
                    simp only [seen, obOp, List.getD_cons_zero, List.getD_cons_succ]
                    rintro h55 h56 h51
                    exact ⟨fun h => absurd (h.symm.trans h51) (by first | simp | simp [undef]), fun _ => by trivial⟩
                  refine ob_det (c := undef) ?_ ?_
                  · intro ρ W hk hC
                    simp only [seen, obOp, List.getD_cons_zero, List.getD_cons_succ]
                    rintro h54 h57 h51
                    exact ⟨fun h => absurd (h.symm.trans h51) (by first | simp | simp [undef]), fun _ => by trivial⟩
                  refine ob_det (c := undef) ?_ ?_
                  · intro ρ W hk hC
                    simp only [seen, obOp, List.getD_cons_zero, List.getD_cons_succ]
                    rintro h51 h58 h40
                    exact ⟨fun h => absurd (h.symm.trans h40) (by first | simp | simp [undef]), fun _ => by trivial⟩
                  refine ob_det (c := .bool false) ?_ ?_
                  · intro ρ W hk hC
                    simp only [seen, obOp, List.getD_cons_zero, List.getD_cons_succ]
                    rintro h40 h59
                    exact rel_value (by simp [go_sem, h40, h59, hk.const]) hC
                  intro vs w5 hC5
                  simp only [endSeen, List.getD_cons_zero]
                  intro h60
                  simp only [writeAll, List.setIfInBounds_toArray, List.set_cons_zero, List.set_cons_succ, h60]
                  have HB5 := Lib.hid (bchain HBU.out hC5)
                  clear hC5
                  go_wp2
                  go_roundw
                  case rel => exact ⟨j + 1, by omega, by go_num, HB5, Lib.hid (fun t ht => by
                    by_cases e : t = j
                    · subst e; exact HJB.out
                    · exact HN.out t (by omega))⟩
                  case measure => simp [intOf]; omega
              have hqE : ∀ V', (Op.equalIn 10000 49 (.agg #[.int .i64 zs, .int .i64 zp]) (.agg #[.int .i64 (-1), .int .i64 0])).run Tryz.prog V' = .ok false V' := fun V' => by rw [eqQ_portI, decide_eq_false hE]
              have hnE : decide ((⟨zs, zp⟩ : Prt) = endP) = false := decide_eq_false (fun h => hE (by cases h; exact ⟨rfl, rfl⟩))
              rw [hnE, Bool.false_or] at hjb
              clear hE hnE
              unfold Lay.val at HH0 HY0
              cases hh : hasB L zs zp with
              | false =>
                rw [hh] at HH0 hjb
                have HH := Lib.hid HH0
                have HJB := Lib.hid (show joinB L (i : Nat) j = false by rw [hjb]; simp)
                clear HH0 HY0 hjb hh
                focus
                  refine wp_region_rel_below [([(6, none)], none), ([], none), ([(37, some 1), (38, some 0)], none), ([(39, some 0)], none), ([(1, none), (40, some 0)], some (40, true)), ([(6, none), (40, some 1)], some (40, true)), ([(41, some 1), (42, some 0), (40, some 2)], some (40, true)), ([(43, some 0), (40, some 3)], some (40, true)), ([(44, some 0), (40, some 4)], some (40, true)), ([(6, none), (45, some 0)], some (45, false)), ([(46, some 0), (45, some 1)], some (45, false)), ([(3, none), (45, some 2)], some (45, false)), ([(47, some 1), (48, some 0), (45, some 3)], some (45, false)), ([(45, some 4), (49, some 0), (40, some 9)], some (40, true)), ([(50, some 0), (40, some 10)], some (40, true)), ([(1, none), (51, some 0)], some (51, false)), ([(6, none), (51, some 1)], some (51, false)), ([(52, some 1), (53, some 0), (51, some 2)], some (51, false)), ([(3, none), (51, some 3)], some (51, false)), ([(5, none), (51, some 4)], some (51, false)), ([(55, some 1), (56, some 0), (51, some 5)], some (51, false)), ([(54, some 3), (57, some 0), (51, some 6)], some (51, false)), ([(51, some 7), (58, some 0), (40, some 18)], some (40, true)), ([(40, some 19), (59, some 0)], none)] [(0, 60)] (by kernel_rfl) (by kernel_rfl) ?_
                  refine ob_det (c := .agg #[.int .i64 zs, .int .i64 zp]) ?_ ?_
                  · intro ρ W hk hC
                    simp only [seen, obOp]
                    rintro h6
                    replace h6 : ρ (.tmp 6) = .pointer (some ⟨g6, 0, none⟩) := h6.trans rfl
                    exact rel_value (by simp [go_sem, h6, y0 W hC, y1 W hC]) hC
                  refine ob_det (c := .agg #[.int .i64 (-1), .int .i64 0]) ?_ ?_
                  · intro ρ W hk hC
                    simp only [seen, obOp]
                    exact rel_call (f := 54) (args := #[]) (by simp [go_sem, hk.func]) hC (rNone_any W)
                  refine ob_det (c := .bool true) ?_ ?_
                  · intro ρ W hk hC
                    simp only [seen, obOp, List.getD_cons_zero, List.getD_cons_succ]
                    rintro h37 h38
                    exact rel_value (by simp [go_sem, h37, h38, hqE]) hC
                  refine ob_det (c := .bool true) ?_ ?_
                  · intro ρ W hk hC
                    simp only [seen, obOp, List.getD_cons_zero]
                    rintro h39
                    exact rel_value (by simp [go_sem, h39]) hC
                  refine ob_det (c := .agg #[.slice (some ⟨b, off, none⟩) L.secs.length p0, .slice a1 L.sigs.length p1, .slice a2 L.exits.length p2, .slice a3 L.flanks.length p3, .int .i64 L.t0, .int .i64 L.t1, .int .i64 L.t2, .int .i64 L.t3, .int .i64 L.t4, .int .i64 L.t5, .int .i64 L.t6]) ?_ ?_
                  · intro ρ W hk hC
                    simp only [seen, obOp, List.getD_cons_zero]
                    rintro h1 h40
                    replace h1 : ρ (.tmp 1) = .pointer (some ⟨w.heap.size, 0, none⟩) := h1.trans rfl
                    refine ⟨fun _ => ?_, fun hn => absurd h40 hn⟩
                    exact rel_value (runLoad h1 (HBX.out.below hC)) hC
                  refine ob_det (c := .agg #[.int .i64 zs, .int .i64 zp]) ?_ ?_
                  · intro ρ W hk hC
                    simp only [seen, obOp, List.getD_cons_zero, List.getD_cons_succ]
                    rintro h6 h40
                    replace h6 : ρ (.tmp 6) = .pointer (some ⟨g6, 0, none⟩) := h6.trans rfl
                    refine ⟨fun _ => ?_, fun hn => absurd h40 hn⟩
                    exact rel_value (by simp [go_sem, h6, y0 W hC, y1 W hC]) hC
                  refine ob_det (c := .bool false) ?_ ?_
                  · intro ρ W hk hC
                    simp only [seen, obOp, List.getD_cons_zero, List.getD_cons_succ]
                    rintro h41 h42 h40
                    refine ⟨fun _ => ?_, fun hn => absurd h40 hn⟩
                    exact rel_call (f := 53) (args := #[.agg #[.slice (some ⟨b, off, none⟩) L.secs.length p0, .slice a1 L.sigs.length p1, .slice a2 L.exits.length p2, .slice a3 L.flanks.length p3, .int .i64 L.t0, .int .i64 L.t1, .int .i64 L.t2, .int .i64 L.t3, .int .i64 L.t4, .int .i64 L.t5, .int .i64 L.t6], .agg #[.int .i64 zs, .int .i64 zp]]) (by simp [go_sem, h41, h42, hk.func]) hC (HH.out W hC)
                  refine ob_det (c := .bool true) ?_ ?_
                  · intro ρ W hk hC
                    simp only [seen, obOp, List.getD_cons_zero, List.getD_cons_succ]
                    rintro h43 h40
                    refine ⟨fun _ => ?_, fun hn => absurd h40 hn⟩
                    exact rel_value (by simp [go_sem, h43]) hC
                  refine ob_det (c := .bool true) ?_ ?_
                  · intro ρ W hk hC
                    simp only [seen, obOp, List.getD_cons_zero, List.getD_cons_succ]
                    rintro h44 h40
                    refine ⟨fun _ => ?_, fun hn => absurd h40 hn⟩
                    exact rel_value (by simp [go_sem, h44]) hC
                  refine ob_det (c := undef) ?_ ?_
                  · intro ρ W hk hC
                    simp only [seen, obOp, List.getD_cons_zero]
                    rintro h6 h45
                    replace h6 : ρ (.tmp 6) = .pointer (some ⟨g6, 0, none⟩) := h6.trans rfl
                    exact ⟨fun h => absurd (h.symm.trans h45) (by first | simp | simp [undef]), fun _ => by trivial⟩
                  refine ob_det (c := undef) ?_ ?_
                  · intro ρ W hk hC
                    simp only [seen, obOp, List.getD_cons_zero, List.getD_cons_succ]
                    rintro h46 h45
                    exact ⟨fun h => absurd (h.symm.trans h45) (by first | simp | simp [undef]), fun _ => by trivial⟩
                  refine ob_det (c := undef) ?_ ?_
                  · intro ρ W hk hC
                    simp only [seen, obOp, List.getD_cons_zero, List.getD_cons_succ]
                    rintro h3 h45
                    replace h3 : ρ (.tmp 3) = .int .i64 (i : Nat) := h3.trans rfl
                    exact ⟨fun h => absurd (h.symm.trans h45) (by first | simp | simp [undef]), fun _ => by trivial⟩
                  refine ob_det (c := undef) ?_ ?_
                  · intro ρ W hk hC
                    simp only [seen, obOp, List.getD_cons_zero, List.getD_cons_succ]
                    rintro h47 h48 h45
                    exact ⟨fun h => absurd (h.symm.trans h45) (by first | simp | simp [undef]), fun _ => by trivial⟩
                  refine ob_det (c := .bool true) ?_ ?_
                  · intro ρ W hk hC
                    simp only [seen, obOp, List.getD_cons_zero, List.getD_cons_succ]
                    rintro h45 h49 h40
                    refine ⟨fun _ => ?_, fun hn => absurd h40 hn⟩
                    exact rel_value (by simp [go_sem, h45, h49, hk.const]) hC
                  refine ob_det (c := .bool true) ?_ ?_
                  · intro ρ W hk hC
                    simp only [seen, obOp, List.getD_cons_zero, List.getD_cons_succ]
                    rintro h50 h40
                    refine ⟨fun _ => ?_, fun hn => absurd h40 hn⟩
                    exact rel_value (by simp [go_sem, h50]) hC
                  refine ob_det (c := undef) ?_ ?_
                  · intro ρ W hk hC
                    simp only [seen, obOp, List.getD_cons_zero]
                    rintro h1 h51
                    replace h1 : ρ (.tmp 1) = .pointer (some ⟨w.heap.size, 0, none⟩) := h1.trans rfl
                    exact ⟨fun h => absurd (h.symm.trans h51) (by first | simp | simp [undef]), fun _ => by trivial⟩
                  refine ob_det (c := undef) ?_ ?_
                  · intro ρ W hk hC
                    simp only [seen, obOp, List.getD_cons_zero, List.getD_cons_succ]
                    rintro h6 h51
                    replace h6 : ρ (.tmp 6) = .pointer (some ⟨g6, 0, none⟩) := h6.trans rfl
                    exact ⟨fun h => absurd (h.symm.trans h51) (by first | simp | simp [undef]), fun _ => by trivial⟩
                  refine ob_det (c := undef) ?_ ?_
                  · intro ρ W hk hC
                    simp only [seen, obOp, List.getD_cons_zero, List.getD_cons_succ]
                    rintro h52 h53 h51
                    exact ⟨fun h => absurd (h.symm.trans h51) (by first | simp | simp [undef]), fun _ => by trivial⟩
                  refine ob_det (c := undef) ?_ ?_
                  · intro ρ W hk hC
                    simp only [seen, obOp, List.getD_cons_zero, List.getD_cons_succ]
                    rintro h3 h51
                    replace h3 : ρ (.tmp 3) = .int .i64 (i : Nat) := h3.trans rfl
                    exact ⟨fun h => absurd (h.symm.trans h51) (by first | simp | simp [undef]), fun _ => by trivial⟩
                  refine ob_det (c := undef) ?_ ?_
                  · intro ρ W hk hC
                    simp only [seen, obOp, List.getD_cons_zero, List.getD_cons_succ]
                    rintro h5 h51
                    replace h5 : ρ (.tmp 5) = .int .i64 (j : Nat) := h5.trans rfl
                    exact ⟨fun h => absurd (h.symm.trans h51) (by first | simp | simp [undef]), fun _ => by trivial⟩
                  refine ob_det (c := undef) ?_ ?_
                  · intro ρ W hk hC
                    simp only [seen, obOp, List.getD_cons_zero, List.getD_cons_succ]
                    rintro h55 h56 h51
                    exact ⟨fun h => absurd (h.symm.trans h51) (by first | simp | simp [undef]), fun _ => by trivial⟩
                  refine ob_det (c := undef) ?_ ?_
                  · intro ρ W hk hC
                    simp only [seen, obOp, List.getD_cons_zero, List.getD_cons_succ]
                    rintro h54 h57 h51
                    exact ⟨fun h => absurd (h.symm.trans h51) (by first | simp | simp [undef]), fun _ => by trivial⟩
                  refine ob_det (c := .bool true) ?_ ?_
                  · intro ρ W hk hC
                    simp only [seen, obOp, List.getD_cons_zero, List.getD_cons_succ]
                    rintro h51 h58 h40
                    refine ⟨fun _ => ?_, fun hn => absurd h40 hn⟩
                    exact rel_value (by simp [go_sem, h51, h58, hk.const]) hC
                  refine ob_det (c := .bool true) ?_ ?_
                  · intro ρ W hk hC
                    simp only [seen, obOp, List.getD_cons_zero, List.getD_cons_succ]
                    rintro h40 h59
                    exact rel_value (by simp [go_sem, h40, h59, hk.const]) hC
                  intro vs w5 hC5
                  simp only [endSeen, List.getD_cons_zero]
                  intro h60
                  simp only [writeAll, List.setIfInBounds_toArray, List.set_cons_zero, List.set_cons_succ, h60]
                  have HB5 := Lib.hid (bchain HXI.out (bchain HBU.out hC5))
                  clear hC5
                  go_wp2
                  go_ret
                  obtain rfl : r = false := HR.out.2.1 i hlt (by
                    rw [HSF.out, List.all_eq_false]
                    exact ⟨j, mem_pj.2 ⟨hj4, HHB.out⟩, by rw [HJB.out]; simp⟩)
                  exact ⟨rfl, bchain HX.out.1 HB5.out⟩
              | true =>
                rw [hh] at HH0 hjb
                have HH := Lib.hid HH0
                rw [Bool.and_true] at hjb
                by_cases hsi : zs = (i : Nat)
                · subst hsi
                  have HJB := Lib.hid (show joinB L (i : Nat) j = false by rw [hjb]; simp)
                  clear HH0 HY0 hjb hh
                  focus
                    refine wp_region_rel_below [([(6, none)], none), ([], none), ([(37, some 1), (38, some 0)], none), ([(39, some 0)], none), ([(1, none), (40, some 0)], some (40, true)), ([(6, none), (40, some 1)], some (40, true)), ([(41, some 1), (42, some 0), (40, some 2)], some (40, true)), ([(43, some 0), (40, some 3)], some (40, true)), ([(44, some 0), (40, some 4)], some (40, true)), ([(6, none), (45, some 0)], some (45, false)), ([(46, some 0), (45, some 1)], some (45, false)), ([(3, none), (45, some 2)], some (45, false)), ([(47, some 1), (48, some 0), (45, some 3)], some (45, false)), ([(45, some 4), (49, some 0), (40, some 9)], some (40, true)), ([(50, some 0), (40, some 10)], some (40, true)), ([(1, none), (51, some 0)], some (51, false)), ([(6, none), (51, some 1)], some (51, false)), ([(52, some 1), (53, some 0), (51, some 2)], some (51, false)), ([(3, none), (51, some 3)], some (51, false)), ([(5, none), (51, some 4)], some (51, false)), ([(55, some 1), (56, some 0), (51, some 5)], some (51, false)), ([(54, some 3), (57, some 0), (51, some 6)], some (51, false)), ([(51, some 7), (58, some 0), (40, some 18)], some (40, true)), ([(40, some 19), (59, some 0)], none)] [(0, 60)] (by kernel_rfl) (by kernel_rfl) ?_
                    refine ob_det (c := .agg #[.int .i64 (i : Nat), .int .i64 zp]) ?_ ?_
                    · intro ρ W hk hC
                      simp only [seen, obOp]
                      rintro h6
                      replace h6 : ρ (.tmp 6) = .pointer (some ⟨g6, 0, none⟩) := h6.trans rfl
                      exact rel_value (by simp [go_sem, h6, y0 W hC, y1 W hC]) hC
                    refine ob_det (c := .agg #[.int .i64 (-1), .int .i64 0]) ?_ ?_
                    · intro ρ W hk hC
                      simp only [seen, obOp]
                      exact rel_call (f := 54) (args := #[]) (by simp [go_sem, hk.func]) hC (rNone_any W)
                    refine ob_det (c := .bool true) ?_ ?_
                    · intro ρ W hk hC
                      simp only [seen, obOp, List.getD_cons_zero, List.getD_cons_succ]
                      rintro h37 h38
                      exact rel_value (by simp [go_sem, h37, h38, hqE]) hC
                    refine ob_det (c := .bool true) ?_ ?_
                    · intro ρ W hk hC
                      simp only [seen, obOp, List.getD_cons_zero]
                      rintro h39
                      exact rel_value (by simp [go_sem, h39]) hC
                    refine ob_det (c := .agg #[.slice (some ⟨b, off, none⟩) L.secs.length p0, .slice a1 L.sigs.length p1, .slice a2 L.exits.length p2, .slice a3 L.flanks.length p3, .int .i64 L.t0, .int .i64 L.t1, .int .i64 L.t2, .int .i64 L.t3, .int .i64 L.t4, .int .i64 L.t5, .int .i64 L.t6]) ?_ ?_
                    · intro ρ W hk hC
                      simp only [seen, obOp, List.getD_cons_zero]
                      rintro h1 h40
                      replace h1 : ρ (.tmp 1) = .pointer (some ⟨w.heap.size, 0, none⟩) := h1.trans rfl
                      refine ⟨fun _ => ?_, fun hn => absurd h40 hn⟩
                      exact rel_value (runLoad h1 (HBX.out.below hC)) hC
                    refine ob_det (c := .agg #[.int .i64 (i : Nat), .int .i64 zp]) ?_ ?_
                    · intro ρ W hk hC
                      simp only [seen, obOp, List.getD_cons_zero, List.getD_cons_succ]
                      rintro h6 h40
                      replace h6 : ρ (.tmp 6) = .pointer (some ⟨g6, 0, none⟩) := h6.trans rfl
                      refine ⟨fun _ => ?_, fun hn => absurd h40 hn⟩
                      exact rel_value (by simp [go_sem, h6, y0 W hC, y1 W hC]) hC
                    refine ob_det (c := .bool true) ?_ ?_
                    · intro ρ W hk hC
                      simp only [seen, obOp, List.getD_cons_zero, List.getD_cons_succ]
                      rintro h41 h42 h40
                      refine ⟨fun _ => ?_, fun hn => absurd h40 hn⟩
                      exact rel_call (f := 53) (args := #[.agg #[.slice (some ⟨b, off, none⟩) L.secs.length p0, .slice a1 L.sigs.length p1, .slice a2 L.exits.length p2, .slice a3 L.flanks.length p3, .int .i64 L.t0, .int .i64 L.t1, .int .i64 L.t2, .int .i64 L.t3, .int .i64 L.t4, .int .i64 L.t5, .int .i64 L.t6], .agg #[.int .i64 (i : Nat), .int .i64 zp]]) (by simp [go_sem, h41, h42, hk.func]) hC (HH.out W hC)
                    refine ob_det (c := .bool false) ?_ ?_
                    · intro ρ W hk hC
                      simp only [seen, obOp, List.getD_cons_zero, List.getD_cons_succ]
                      rintro h43 h40
                      refine ⟨fun _ => ?_, fun hn => absurd h40 hn⟩
                      exact rel_value (by simp [go_sem, h43]) hC
                    refine ob_det (c := .bool false) ?_ ?_
                    · intro ρ W hk hC
                      simp only [seen, obOp, List.getD_cons_zero, List.getD_cons_succ]
                      rintro h44 h40
                      refine ⟨fun _ => ?_, fun hn => absurd h40 hn⟩
                      exact rel_value (by simp [go_sem, h44]) hC
                    refine ob_det (c := .pointer (some ⟨g6, 0, none⟩)) ?_ ?_
                    · intro ρ W hk hC
                      simp only [seen, obOp, List.getD_cons_zero]
                      rintro h6 h45
                      replace h6 : ρ (.tmp 6) = .pointer (some ⟨g6, 0, none⟩) := h6.trans rfl
                      refine ⟨fun _ => ?_, fun hn => absurd h45 hn⟩
                      exact rel_value (by simp [go_sem, h6]) hC
                    refine ob_det (c := .int .i64 (i : Nat)) ?_ ?_
                    · intro ρ W hk hC
                      simp only [seen, obOp, List.getD_cons_zero, List.getD_cons_succ]
                      rintro h46 h45
                      refine ⟨fun _ => ?_, fun hn => absurd h45 hn⟩
                      exact rel_value (by simp [go_sem, h46, y0 W hC]) hC
                    refine ob_det (c := .int .i64 (i : Nat)) ?_ ?_
                    · intro ρ W hk hC
                      simp only [seen, obOp, List.getD_cons_zero, List.getD_cons_succ]
                      rintro h3 h45
                      replace h3 : ρ (.tmp 3) = .int .i64 (i : Nat) := h3.trans rfl
                      refine ⟨fun _ => ?_, fun hn => absurd h45 hn⟩
                      exact rel_value (by simp [go_sem, h3]) hC
                    refine ob_det (c := .bool true) ?_ ?_
                    · intro ρ W hk hC
                      simp only [seen, obOp, List.getD_cons_zero, List.getD_cons_succ]
                      rintro h47 h48 h45
                      refine ⟨fun _ => ?_, fun hn => absurd h45 hn⟩
                      exact rel_value (by simp [go_sem, h47, h48]) hC
                    refine ob_det (c := .bool true) ?_ ?_
                    · intro ρ W hk hC
                      simp only [seen, obOp, List.getD_cons_zero, List.getD_cons_succ]
                      rintro h45 h49 h40
                      refine ⟨fun _ => ?_, fun hn => absurd h40 hn⟩
                      exact rel_value (by simp [go_sem, h45, h49, hk.const]) hC
                    refine ob_det (c := .bool true) ?_ ?_
                    · intro ρ W hk hC
                      simp only [seen, obOp, List.getD_cons_zero, List.getD_cons_succ]
                      rintro h50 h40
                      refine ⟨fun _ => ?_, fun hn => absurd h40 hn⟩
                      exact rel_value (by simp [go_sem, h50]) hC
                    refine ob_det (c := undef) ?_ ?_
                    · intro ρ W hk hC
                      simp only [seen, obOp, List.getD_cons_zero]
                      rintro h1 h51
                      replace h1 : ρ (.tmp 1) = .pointer (some ⟨w.heap.size, 0, none⟩) := h1.trans rfl
                      exact ⟨fun h => absurd (h.symm.trans h51) (by first | simp | simp [undef]), fun _ => by trivial⟩
                    refine ob_det (c := undef) ?_ ?_
                    · intro ρ W hk hC
                      simp only [seen, obOp, List.getD_cons_zero, List.getD_cons_succ]
                      rintro h6 h51
                      replace h6 : ρ (.tmp 6) = .pointer (some ⟨g6, 0, none⟩) := h6.trans rfl
                      exact ⟨fun h => absurd (h.symm.trans h51) (by first | simp | simp [undef]), fun _ => by trivial⟩
                    refine ob_det (c := undef) ?_ ?_
                    · intro ρ W hk hC
                      simp only [seen, obOp, List.getD_cons_zero, List.getD_cons_succ]
                      rintro h52 h53 h51
                      exact ⟨fun h => absurd (h.symm.trans h51) (by first | simp | simp [undef]), fun _ => by trivial⟩
                    refine ob_det (c := undef) ?_ ?_
                    · intro ρ W hk hC
                      simp only [seen, obOp, List.getD_cons_zero, List.getD_cons_succ]
                      rintro h3 h51
                      replace h3 : ρ (.tmp 3) = .int .i64 (i : Nat) := h3.trans rfl
                      exact ⟨fun h => absurd (h.symm.trans h51) (by first | simp | simp [undef]), fun _ => by trivial⟩
                    refine ob_det (c := undef) ?_ ?_
                    · intro ρ W hk hC
                      simp only [seen, obOp, List.getD_cons_zero, List.getD_cons_succ]
                      rintro h5 h51
                      replace h5 : ρ (.tmp 5) = .int .i64 (j : Nat) := h5.trans rfl
                      exact ⟨fun h => absurd (h.symm.trans h51) (by first | simp | simp [undef]), fun _ => by trivial⟩
                    refine ob_det (c := undef) ?_ ?_
                    · intro ρ W hk hC
                      simp only [seen, obOp, List.getD_cons_zero, List.getD_cons_succ]
                      rintro h55 h56 h51
                      exact ⟨fun h => absurd (h.symm.trans h51) (by first | simp | simp [undef]), fun _ => by trivial⟩
                    refine ob_det (c := undef) ?_ ?_
                    · intro ρ W hk hC
                      simp only [seen, obOp, List.getD_cons_zero, List.getD_cons_succ]
                      rintro h54 h57 h51
                      exact ⟨fun h => absurd (h.symm.trans h51) (by first | simp | simp [undef]), fun _ => by trivial⟩
                    refine ob_det (c := .bool true) ?_ ?_
                    · intro ρ W hk hC
                      simp only [seen, obOp, List.getD_cons_zero, List.getD_cons_succ]
                      rintro h51 h58 h40
                      refine ⟨fun _ => ?_, fun hn => absurd h40 hn⟩
                      exact rel_value (by simp [go_sem, h51, h58, hk.const]) hC
                    refine ob_det (c := .bool true) ?_ ?_
                    · intro ρ W hk hC
                      simp only [seen, obOp, List.getD_cons_zero, List.getD_cons_succ]
                      rintro h40 h59
                      exact rel_value (by simp [go_sem, h40, h59, hk.const]) hC
                    intro vs w5 hC5
                    simp only [endSeen, List.getD_cons_zero]
                    intro h60
                    simp only [writeAll, List.setIfInBounds_toArray, List.set_cons_zero, List.set_cons_succ, h60]
                    have HB5 := Lib.hid (bchain HXI.out (bchain HBU.out hC5))
                    clear hC5
                    go_wp2
                    go_ret
                    obtain rfl : r = false := HR.out.2.1 i hlt (by
                      rw [HSF.out, List.all_eq_false]
                      exact ⟨j, mem_pj.2 ⟨hj4, HHB.out⟩, by rw [HJB.out]; simp⟩)
                    exact ⟨rfl, bchain HX.out.1 HB5.out⟩
                rw [decide_eq_false hsi, Bool.not_false, Bool.true_and] at hjb
                generalize beyL L zs zp = y at HY0 hjb
                obtain ⟨ys, yp⟩ := y
                dsimp only at HY0 hjb
                have HY := Lib.hid HY0
                clear HH0 HY0 hh
                by_cases hP : ys = (i : Nat) ∧ yp = (j : Nat)
                · have hqP : ∀ V', (Op.equalIn 10000 49 (.agg #[.int .i64 ys, .int .i64 yp]) (.agg #[.int .i64 (i : Nat), .int .i64 (j : Nat)])).run Tryz.prog V' = .ok true V' := fun V' => by rw [eqQ_portI, decide_eq_true hP]
                  have HJB := Lib.hid (show joinB L (i : Nat) j = true by rw [hjb]; obtain ⟨rfl, rfl⟩ := hP; simp)
                  clear hP hjb
                  focus
                    refine wp_region_rel_below [([(6, none)], none), ([], none), ([(37, some 1), (38, some 0)], none), ([(39, some 0)], none), ([(1, none), (40, some 0)], some (40, true)), ([(6, none), (40, some 1)], some (40, true)), ([(41, some 1), (42, some 0), (40, some 2)], some (40, true)), ([(43, some 0), (40, some 3)], some (40, true)), ([(44, some 0), (40, some 4)], some (40, true)), ([(6, none), (45, some 0)], some (45, false)), ([(46, some 0), (45, some 1)], some (45, false)), ([(3, none), (45, some 2)], some (45, false)), ([(47, some 1), (48, some 0), (45, some 3)], some (45, false)), ([(45, some 4), (49, some 0), (40, some 9)], some (40, true)), ([(50, some 0), (40, some 10)], some (40, true)), ([(1, none), (51, some 0)], some (51, false)), ([(6, none), (51, some 1)], some (51, false)), ([(52, some 1), (53, some 0), (51, some 2)], some (51, false)), ([(3, none), (51, some 3)], some (51, false)), ([(5, none), (51, some 4)], some (51, false)), ([(55, some 1), (56, some 0), (51, some 5)], some (51, false)), ([(54, some 3), (57, some 0), (51, some 6)], some (51, false)), ([(51, some 7), (58, some 0), (40, some 18)], some (40, true)), ([(40, some 19), (59, some 0)], none)] [(0, 60)] (by kernel_rfl) (by kernel_rfl) ?_
                    refine ob_det (c := .agg #[.int .i64 zs, .int .i64 zp]) ?_ ?_
                    · intro ρ W hk hC
                      simp only [seen, obOp]
                      rintro h6
                      replace h6 : ρ (.tmp 6) = .pointer (some ⟨g6, 0, none⟩) := h6.trans rfl
                      exact rel_value (by simp [go_sem, h6, y0 W hC, y1 W hC]) hC
                    refine ob_det (c := .agg #[.int .i64 (-1), .int .i64 0]) ?_ ?_
                    · intro ρ W hk hC
                      simp only [seen, obOp]
                      exact rel_call (f := 54) (args := #[]) (by simp [go_sem, hk.func]) hC (rNone_any W)
                    refine ob_det (c := .bool true) ?_ ?_
                    · intro ρ W hk hC
                      simp only [seen, obOp, List.getD_cons_zero, List.getD_cons_succ]
                      rintro h37 h38
                      exact rel_value (by simp [go_sem, h37, h38, hqE]) hC
                    refine ob_det (c := .bool true) ?_ ?_
                    · intro ρ W hk hC
                      simp only [seen, obOp, List.getD_cons_zero]
                      rintro h39
                      exact rel_value (by simp [go_sem, h39]) hC
                    refine ob_det (c := .agg #[.slice (some ⟨b, off, none⟩) L.secs.length p0, .slice a1 L.sigs.length p1, .slice a2 L.exits.length p2, .slice a3 L.flanks.length p3, .int .i64 L.t0, .int .i64 L.t1, .int .i64 L.t2, .int .i64 L.t3, .int .i64 L.t4, .int .i64 L.t5, .int .i64 L.t6]) ?_ ?_
                    · intro ρ W hk hC
                      simp only [seen, obOp, List.getD_cons_zero]
                      rintro h1 h40
                      replace h1 : ρ (.tmp 1) = .pointer (some ⟨w.heap.size, 0, none⟩) := h1.trans rfl
                      refine ⟨fun _ => ?_, fun hn => absurd h40 hn⟩
                      exact rel_value (runLoad h1 (HBX.out.below hC)) hC
                    refine ob_det (c := .agg #[.int .i64 zs, .int .i64 zp]) ?_ ?_
                    · intro ρ W hk hC
                      simp only [seen, obOp, List.getD_cons_zero, List.getD_cons_succ]
                      rintro h6 h40
                      replace h6 : ρ (.tmp 6) = .pointer (some ⟨g6, 0, none⟩) := h6.trans rfl
                      refine ⟨fun _ => ?_, fun hn => absurd h40 hn⟩
                      exact rel_value (by simp [go_sem, h6, y0 W hC, y1 W hC]) hC
                    refine ob_det (c := .bool true) ?_ ?_
                    · intro ρ W hk hC
                      simp only [seen, obOp, List.getD_cons_zero, List.getD_cons_succ]
                      rintro h41 h42 h40
                      refine ⟨fun _ => ?_, fun hn => absurd h40 hn⟩
                      exact rel_call (f := 53) (args := #[.agg #[.slice (some ⟨b, off, none⟩) L.secs.length p0, .slice a1 L.sigs.length p1, .slice a2 L.exits.length p2, .slice a3 L.flanks.length p3, .int .i64 L.t0, .int .i64 L.t1, .int .i64 L.t2, .int .i64 L.t3, .int .i64 L.t4, .int .i64 L.t5, .int .i64 L.t6], .agg #[.int .i64 zs, .int .i64 zp]]) (by simp [go_sem, h41, h42, hk.func]) hC (HH.out W hC)
                    refine ob_det (c := .bool false) ?_ ?_
                    · intro ρ W hk hC
                      simp only [seen, obOp, List.getD_cons_zero, List.getD_cons_succ]
                      rintro h43 h40
                      refine ⟨fun _ => ?_, fun hn => absurd h40 hn⟩
                      exact rel_value (by simp [go_sem, h43]) hC
                    refine ob_det (c := .bool false) ?_ ?_
                    · intro ρ W hk hC
                      simp only [seen, obOp, List.getD_cons_zero, List.getD_cons_succ]
                      rintro h44 h40
                      refine ⟨fun _ => ?_, fun hn => absurd h40 hn⟩
                      exact rel_value (by simp [go_sem, h44]) hC
                    refine ob_det (c := .pointer (some ⟨g6, 0, none⟩)) ?_ ?_
                    · intro ρ W hk hC
                      simp only [seen, obOp, List.getD_cons_zero]
                      rintro h6 h45
                      replace h6 : ρ (.tmp 6) = .pointer (some ⟨g6, 0, none⟩) := h6.trans rfl
                      refine ⟨fun _ => ?_, fun hn => absurd h45 hn⟩
                      exact rel_value (by simp [go_sem, h6]) hC
                    refine ob_det (c := .int .i64 zs) ?_ ?_
                    · intro ρ W hk hC
                      simp only [seen, obOp, List.getD_cons_zero, List.getD_cons_succ]
                      rintro h46 h45
                      refine ⟨fun _ => ?_, fun hn => absurd h45 hn⟩
                      exact rel_value (by simp [go_sem, h46, y0 W hC]) hC
                    refine ob_det (c := .int .i64 (i : Nat)) ?_ ?_
                    · intro ρ W hk hC
                      simp only [seen, obOp, List.getD_cons_zero, List.getD_cons_succ]
                      rintro h3 h45
                      replace h3 : ρ (.tmp 3) = .int .i64 (i : Nat) := h3.trans rfl
                      refine ⟨fun _ => ?_, fun hn => absurd h45 hn⟩
                      exact rel_value (by simp [go_sem, h3]) hC
                    refine ob_det (c := .bool false) ?_ ?_
                    · intro ρ W hk hC
                      simp only [seen, obOp, List.getD_cons_zero, List.getD_cons_succ]
                      rintro h47 h48 h45
                      refine ⟨fun _ => ?_, fun hn => absurd h45 hn⟩
                      exact rel_value (by simp [go_sem, h47, h48, hsi]) hC
                    refine ob_det (c := .bool false) ?_ ?_
                    · intro ρ W hk hC
                      simp only [seen, obOp, List.getD_cons_zero, List.getD_cons_succ]
                      rintro h45 h49 h40
                      refine ⟨fun _ => ?_, fun hn => absurd h40 hn⟩
                      exact rel_value (by simp [go_sem, h45, h49, hk.const]) hC
                    refine ob_det (c := .bool false) ?_ ?_
                    · intro ρ W hk hC
                      simp only [seen, obOp, List.getD_cons_zero, List.getD_cons_succ]
                      rintro h50 h40
                      refine ⟨fun _ => ?_, fun hn => absurd h40 hn⟩
                      exact rel_value (by simp [go_sem, h50]) hC
                    refine ob_det (c := .agg #[.slice (some ⟨b, off, none⟩) L.secs.length p0, .slice a1 L.sigs.length p1, .slice a2 L.exits.length p2, .slice a3 L.flanks.length p3, .int .i64 L.t0, .int .i64 L.t1, .int .i64 L.t2, .int .i64 L.t3, .int .i64 L.t4, .int .i64 L.t5, .int .i64 L.t6]) ?_ ?_
                    · intro ρ W hk hC
                      simp only [seen, obOp, List.getD_cons_zero]
                      rintro h1 h51
                      replace h1 : ρ (.tmp 1) = .pointer (some ⟨w.heap.size, 0, none⟩) := h1.trans rfl
                      refine ⟨fun _ => ?_, fun hn => absurd h51 hn⟩
                      exact rel_value (runLoad h1 (HBX.out.below hC)) hC
                    refine ob_det (c := .agg #[.int .i64 zs, .int .i64 zp]) ?_ ?_
                    · intro ρ W hk hC
                      simp only [seen, obOp, List.getD_cons_zero, List.getD_cons_succ]
                      rintro h6 h51
                      replace h6 : ρ (.tmp 6) = .pointer (some ⟨g6, 0, none⟩) := h6.trans rfl
                      refine ⟨fun _ => ?_, fun hn => absurd h51 hn⟩
                      exact rel_value (by simp [go_sem, h6, y0 W hC, y1 W hC]) hC
                    refine ob_det (c := .agg #[.int .i64 ys, .int .i64 yp]) ?_ ?_
                    · intro ρ W hk hC
                      simp only [seen, obOp, List.getD_cons_zero, List.getD_cons_succ]
                      rintro h52 h53 h51
                      refine ⟨fun _ => ?_, fun hn => absurd h51 hn⟩
                      exact rel_call (f := 36) (args := #[.agg #[.slice (some ⟨b, off, none⟩) L.secs.length p0, .slice a1 L.sigs.length p1, .slice a2 L.exits.length p2, .slice a3 L.flanks.length p3, .int .i64 L.t0, .int .i64 L.t1, .int .i64 L.t2, .int .i64 L.t3, .int .i64 L.t4, .int .i64 L.t5, .int .i64 L.t6], .agg #[.int .i64 zs, .int .i64 zp]]) (by simp [go_sem, h52, h53, hk.func]) hC (HY.out W hC)
                    refine ob_det (c := .int .i64 (i : Nat)) ?_ ?_
                    · intro ρ W hk hC
                      simp only [seen, obOp, List.getD_cons_zero, List.getD_cons_succ]
                      rintro h3 h51
                      replace h3 : ρ (.tmp 3) = .int .i64 (i : Nat) := h3.trans rfl
                      refine ⟨fun _ => ?_, fun hn => absurd h51 hn⟩
                      exact rel_value (by simp [go_sem, h3]) hC
                    refine ob_det (c := .int .i64 (j : Nat)) ?_ ?_
                    · intro ρ W hk hC
                      simp only [seen, obOp, List.getD_cons_zero, List.getD_cons_succ]
                      rintro h5 h51
                      replace h5 : ρ (.tmp 5) = .int .i64 (j : Nat) := h5.trans rfl
                      refine ⟨fun _ => ?_, fun hn => absurd h51 hn⟩
                      exact rel_value (by simp [go_sem, h5]) hC
                    refine ob_det (c := .agg #[.int .i64 (i : Nat), .int .i64 (j : Nat)]) ?_ ?_
                    · intro ρ W hk hC
                      simp only [seen, obOp, List.getD_cons_zero, List.getD_cons_succ]
                      rintro h55 h56 h51
                      refine ⟨fun _ => ?_, fun hn => absurd h51 hn⟩
                      exact rel_value (by simp [go_sem, h55, h56]) hC
                    refine ob_det (c := .bool false) ?_ ?_
                    · intro ρ W hk hC
                      simp only [seen, obOp, List.getD_cons_zero, List.getD_cons_succ]
                      rintro h54 h57 h51
                      refine ⟨fun _ => ?_, fun hn => absurd h51 hn⟩
                      exact rel_value (by simp [go_sem, h54, h57, hqP]) hC
                    refine ob_det (c := .bool false) ?_ ?_
                    · intro ρ W hk hC
                      simp only [seen, obOp, List.getD_cons_zero, List.getD_cons_succ]
                      rintro h51 h58 h40
                      refine ⟨fun _ => ?_, fun hn => absurd h40 hn⟩
                      exact rel_value (by simp [go_sem, h51, h58, hk.const]) hC
                    refine ob_det (c := .bool false) ?_ ?_
                    · intro ρ W hk hC
                      simp only [seen, obOp, List.getD_cons_zero, List.getD_cons_succ]
                      rintro h40 h59
                      exact rel_value (by simp [go_sem, h40, h59, hk.const]) hC
                    intro vs w5 hC5
                    simp only [endSeen, List.getD_cons_zero]
                    intro h60
                    simp only [writeAll, List.setIfInBounds_toArray, List.set_cons_zero, List.set_cons_succ, h60]
                    have HB5 := Lib.hid (bchain HBU.out hC5)
                    clear hC5
                    go_wp2
                    go_roundw
                    case rel => exact ⟨j + 1, by omega, by go_num, HB5, Lib.hid (fun t ht => by
                      by_cases e : t = j
                      · subst e; exact HJB.out
                      · exact HN.out t (by omega))⟩
                    case measure => simp [intOf]; omega
                · have hqP : ∀ V', (Op.equalIn 10000 49 (.agg #[.int .i64 ys, .int .i64 yp]) (.agg #[.int .i64 (i : Nat), .int .i64 (j : Nat)])).run Tryz.prog V' = .ok false V' := fun V' => by rw [eqQ_portI, decide_eq_false hP]
                  have HJB := Lib.hid (show joinB L (i : Nat) j = false by rw [hjb]; exact decide_eq_false (fun h => hP (by cases h; exact ⟨rfl, rfl⟩)))
                  clear hP hjb
                  focus
                    refine wp_region_rel_below [([(6, none)], none), ([], none), ([(37, some 1), (38, some 0)], none), ([(39, some 0)], none), ([(1, none), (40, some 0)], some (40, true)), ([(6, none), (40, some 1)], some (40, true)), ([(41, some 1), (42, some 0), (40, some 2)], some (40, true)), ([(43, some 0), (40, some 3)], some (40, true)), ([(44, some 0), (40, some 4)], some (40, true)), ([(6, none), (45, some 0)], some (45, false)), ([(46, some 0), (45, some 1)], some (45, false)), ([(3, none), (45, some 2)], some (45, false)), ([(47, some 1), (48, some 0), (45, some 3)], some (45, false)), ([(45, some 4), (49, some 0), (40, some 9)], some (40, true)), ([(50, some 0), (40, some 10)], some (40, true)), ([(1, none), (51, some 0)], some (51, false)), ([(6, none), (51, some 1)], some (51, false)), ([(52, some 1), (53, some 0), (51, some 2)], some (51, false)), ([(3, none), (51, some 3)], some (51, false)), ([(5, none), (51, some 4)], some (51, false)), ([(55, some 1), (56, some 0), (51, some 5)], some (51, false)), ([(54, some 3), (57, some 0), (51, some 6)], some (51, false)), ([(51, some 7), (58, some 0), (40, some 18)], some (40, true)), ([(40, some 19), (59, some 0)], none)] [(0, 60)] (by kernel_rfl) (by kernel_rfl) ?_
                    refine ob_det (c := .agg #[.int .i64 zs, .int .i64 zp]) ?_ ?_
                    · intro ρ W hk hC
                      simp only [seen, obOp]
                      rintro h6
                      replace h6 : ρ (.tmp 6) = .pointer (some ⟨g6, 0, none⟩) := h6.trans rfl
                      exact rel_value (by simp [go_sem, h6, y0 W hC, y1 W hC]) hC
                    refine ob_det (c := .agg #[.int .i64 (-1), .int .i64 0]) ?_ ?_
                    · intro ρ W hk hC
                      simp only [seen, obOp]
                      exact rel_call (f := 54) (args := #[]) (by simp [go_sem, hk.func]) hC (rNone_any W)
                    refine ob_det (c := .bool true) ?_ ?_
                    · intro ρ W hk hC
                      simp only [seen, obOp, List.getD_cons_zero, List.getD_cons_succ]
                      rintro h37 h38
                      exact rel_value (by simp [go_sem, h37, h38, hqE]) hC
                    refine ob_det (c := .bool true) ?_ ?_
                    · intro ρ W hk hC
                      simp only [seen, obOp, List.getD_cons_zero]
                      rintro h39
                      exact rel_value (by simp [go_sem, h39]) hC
                    refine ob_det (c := .agg #[.slice (some ⟨b, off, none⟩) L.secs.length p0, .slice a1 L.sigs.length p1, .slice a2 L.exits.length p2, .slice a3 L.flanks.length p3, .int .i64 L.t0, .int .i64 L.t1, .int .i64 L.t2, .int .i64 L.t3, .int .i64 L.t4, .int .i64 L.t5, .int .i64 L.t6]) ?_ ?_
                    · intro ρ W hk hC
                      simp only [seen, obOp, List.getD_cons_zero]
                      rintro h1 h40
                      replace h1 : ρ (.tmp 1) = .pointer (some ⟨w.heap.size, 0, none⟩) := h1.trans rfl
                      refine ⟨fun _ => ?_, fun hn => absurd h40 hn⟩
                      exact rel_value (runLoad h1 (HBX.out.below hC)) hC
                    refine ob_det (c := .agg #[.int .i64 zs, .int .i64 zp]) ?_ ?_
                    · intro ρ W hk hC
                      simp only [seen, obOp, List.getD_cons_zero, List.getD_cons_succ]
                      rintro h6 h40
                      replace h6 : ρ (.tmp 6) = .pointer (some ⟨g6, 0, none⟩) := h6.trans rfl
                      refine ⟨fun _ => ?_, fun hn => absurd h40 hn⟩
                      exact rel_value (by simp [go_sem, h6, y0 W hC, y1 W hC]) hC
                    refine ob_det (c := .bool true) ?_ ?_
                    · intro ρ W hk hC
                      simp only [seen, obOp, List.getD_cons_zero, List.getD_cons_succ]
                      rintro h41 h42 h40
                      refine ⟨fun _ => ?_, fun hn => absurd h40 hn⟩
                      exact rel_call (f := 53) (args := #[.agg #[.slice (some ⟨b, off, none⟩) L.secs.length p0, .slice a1 L.sigs.length p1, .slice a2 L.exits.length p2, .slice a3 L.flanks.length p3, .int .i64 L.t0, .int .i64 L.t1, .int .i64 L.t2, .int .i64 L.t3, .int .i64 L.t4, .int .i64 L.t5, .int .i64 L.t6], .agg #[.int .i64 zs, .int .i64 zp]]) (by simp [go_sem, h41, h42, hk.func]) hC (HH.out W hC)
                    refine ob_det (c := .bool false) ?_ ?_
                    · intro ρ W hk hC
                      simp only [seen, obOp, List.getD_cons_zero, List.getD_cons_succ]
                      rintro h43 h40
                      refine ⟨fun _ => ?_, fun hn => absurd h40 hn⟩
                      exact rel_value (by simp [go_sem, h43]) hC
                    refine ob_det (c := .bool false) ?_ ?_
                    · intro ρ W hk hC
                      simp only [seen, obOp, List.getD_cons_zero, List.getD_cons_succ]
                      rintro h44 h40
                      refine ⟨fun _ => ?_, fun hn => absurd h40 hn⟩
                      exact rel_value (by simp [go_sem, h44]) hC
                    refine ob_det (c := .pointer (some ⟨g6, 0, none⟩)) ?_ ?_
                    · intro ρ W hk hC
                      simp only [seen, obOp, List.getD_cons_zero]
                      rintro h6 h45
                      replace h6 : ρ (.tmp 6) = .pointer (some ⟨g6, 0, none⟩) := h6.trans rfl
                      refine ⟨fun _ => ?_, fun hn => absurd h45 hn⟩
                      exact rel_value (by simp [go_sem, h6]) hC
                    refine ob_det (c := .int .i64 zs) ?_ ?_
                    · intro ρ W hk hC
                      simp only [seen, obOp, List.getD_cons_zero, List.getD_cons_succ]
                      rintro h46 h45
                      refine ⟨fun _ => ?_, fun hn => absurd h45 hn⟩
                      exact rel_value (by simp [go_sem, h46, y0 W hC]) hC
                    refine ob_det (c := .int .i64 (i : Nat)) ?_ ?_
                    · intro ρ W hk hC
                      simp only [seen, obOp, List.getD_cons_zero, List.getD_cons_succ]
                      rintro h3 h45
                      replace h3 : ρ (.tmp 3) = .int .i64 (i : Nat) := h3.trans rfl
                      refine ⟨fun _ => ?_, fun hn => absurd h45 hn⟩
                      exact rel_value (by simp [go_sem, h3]) hC
                    refine ob_det (c := .bool false) ?_ ?_
                    · intro ρ W hk hC
                      simp only [seen, obOp, List.getD_cons_zero, List.getD_cons_succ]
                      rintro h47 h48 h45
                      refine ⟨fun _ => ?_, fun hn => absurd h45 hn⟩
                      exact rel_value (by simp [go_sem, h47, h48, hsi]) hC
                    refine ob_det (c := .bool false) ?_ ?_
                    · intro ρ W hk hC
                      simp only [seen, obOp, List.getD_cons_zero, List.getD_cons_succ]
                      rintro h45 h49 h40
                      refine ⟨fun _ => ?_, fun hn => absurd h40 hn⟩
                      exact rel_value (by simp [go_sem, h45, h49, hk.const]) hC
                    refine ob_det (c := .bool false) ?_ ?_
                    · intro ρ W hk hC
                      simp only [seen, obOp, List.getD_cons_zero, List.getD_cons_succ]
                      rintro h50 h40
                      refine ⟨fun _ => ?_, fun hn => absurd h40 hn⟩
                      exact rel_value (by simp [go_sem, h50]) hC
                    refine ob_det (c := .agg #[.slice (some ⟨b, off, none⟩) L.secs.length p0, .slice a1 L.sigs.length p1, .slice a2 L.exits.length p2, .slice a3 L.flanks.length p3, .int .i64 L.t0, .int .i64 L.t1, .int .i64 L.t2, .int .i64 L.t3, .int .i64 L.t4, .int .i64 L.t5, .int .i64 L.t6]) ?_ ?_
                    · intro ρ W hk hC
                      simp only [seen, obOp, List.getD_cons_zero]
                      rintro h1 h51
                      replace h1 : ρ (.tmp 1) = .pointer (some ⟨w.heap.size, 0, none⟩) := h1.trans rfl
                      refine ⟨fun _ => ?_, fun hn => absurd h51 hn⟩
                      exact rel_value (runLoad h1 (HBX.out.below hC)) hC
                    refine ob_det (c := .agg #[.int .i64 zs, .int .i64 zp]) ?_ ?_
                    · intro ρ W hk hC
                      simp only [seen, obOp, List.getD_cons_zero, List.getD_cons_succ]
                      rintro h6 h51
                      replace h6 : ρ (.tmp 6) = .pointer (some ⟨g6, 0, none⟩) := h6.trans rfl
                      refine ⟨fun _ => ?_, fun hn => absurd h51 hn⟩
                      exact rel_value (by simp [go_sem, h6, y0 W hC, y1 W hC]) hC
                    refine ob_det (c := .agg #[.int .i64 ys, .int .i64 yp]) ?_ ?_
                    · intro ρ W hk hC
                      simp only [seen, obOp, List.getD_cons_zero, List.getD_cons_succ]
                      rintro h52 h53 h51
                      refine ⟨fun _ => ?_, fun hn => absurd h51 hn⟩
                      exact rel_call (f := 36) (args := #[.agg #[.slice (some ⟨b, off, none⟩) L.secs.length p0, .slice a1 L.sigs.length p1, .slice a2 L.exits.length p2, .slice a3 L.flanks.length p3, .int .i64 L.t0, .int .i64 L.t1, .int .i64 L.t2, .int .i64 L.t3, .int .i64 L.t4, .int .i64 L.t5, .int .i64 L.t6], .agg #[.int .i64 zs, .int .i64 zp]]) (by simp [go_sem, h52, h53, hk.func]) hC (HY.out W hC)
                    refine ob_det (c := .int .i64 (i : Nat)) ?_ ?_
                    · intro ρ W hk hC
                      simp only [seen, obOp, List.getD_cons_zero, List.getD_cons_succ]
                      rintro h3 h51
                      replace h3 : ρ (.tmp 3) = .int .i64 (i : Nat) := h3.trans rfl
                      refine ⟨fun _ => ?_, fun hn => absurd h51 hn⟩
                      exact rel_value (by simp [go_sem, h3]) hC
                    refine ob_det (c := .int .i64 (j : Nat)) ?_ ?_
                    · intro ρ W hk hC
                      simp only [seen, obOp, List.getD_cons_zero, List.getD_cons_succ]
                      rintro h5 h51
                      replace h5 : ρ (.tmp 5) = .int .i64 (j : Nat) := h5.trans rfl
                      refine ⟨fun _ => ?_, fun hn => absurd h51 hn⟩
                      exact rel_value (by simp [go_sem, h5]) hC
                    refine ob_det (c := .agg #[.int .i64 (i : Nat), .int .i64 (j : Nat)]) ?_ ?_
                    · intro ρ W hk hC
                      simp only [seen, obOp, List.getD_cons_zero, List.getD_cons_succ]
                      rintro h55 h56 h51
                      refine ⟨fun _ => ?_, fun hn => absurd h51 hn⟩
                      exact rel_value (by simp [go_sem, h55, h56]) hC
                    refine ob_det (c := .bool true) ?_ ?_
                    · intro ρ W hk hC
                      simp only [seen, obOp, List.getD_cons_zero, List.getD_cons_succ]
                      rintro h54 h57 h51
                      refine ⟨fun _ => ?_, fun hn => absurd h51 hn⟩
                      exact rel_value (by simp [go_sem, h54, h57, hqP]) hC
                    refine ob_det (c := .bool true) ?_ ?_
                    · intro ρ W hk hC
                      simp only [seen, obOp, List.getD_cons_zero, List.getD_cons_succ]
                      rintro h51 h58 h40
                      refine ⟨fun _ => ?_, fun hn => absurd h40 hn⟩
                      exact rel_value (by simp [go_sem, h51, h58, hk.const]) hC
                    refine ob_det (c := .bool true) ?_ ?_
                    · intro ρ W hk hC
                      simp only [seen, obOp, List.getD_cons_zero, List.getD_cons_succ]
                      rintro h40 h59
                      exact rel_value (by simp [go_sem, h40, h59, hk.const]) hC
                    intro vs w5 hC5
                    simp only [endSeen, List.getD_cons_zero]
                    intro h60
                    simp only [writeAll, List.setIfInBounds_toArray, List.set_cons_zero, List.set_cons_succ, h60]
                    have HB5 := Lib.hid (bchain HXI.out (bchain HBU.out hC5))
                    clear hC5
                    go_wp2
                    go_ret
                    obtain rfl : r = false := HR.out.2.1 i hlt (by
                      rw [HSF.out, List.all_eq_false]
                      exact ⟨j, mem_pj.2 ⟨hj4, HHB.out⟩, by rw [HJB.out]; simp⟩)
                    exact ⟨rfl, bchain HX.out.1 HB5.out⟩
            · obtain rfl : j = m := by omega
              go_wp2_with fail
              (with_reducible refine (HPT.out _).mono ?_)
              rintro e w3 ⟨rfl, b3⟩
              have HB3 := Lib.hid (bchain HXI.out (bchain HBi.out b3))
              clear b3
              go_wp2
              go_roundw
              case rel => exact ⟨i + 1, by omega, by omega, by go_num, HB3, Lib.hid (fun t ht => by
                by_cases e : t = i
                · subst e
                  rw [HSF.out, List.all_eq_true]
                  exact fun s hs => HN.out s (HPO.out.2 s (mem_pj.1 hs).1 (mem_pj.1 hs).2)
                · exact HJ.out t (by omega))⟩
              case measure => simp [intOf]; omega
      · obtain rfl : i = 24 := by omega
        have d24 : decide (((24 : Nat) : Int) < 24) = false := by decide
        obtain rfl : r = false := HR.out.1 (by omega)
        have d25 : decide ((L.secs.length : Int) ≤ 24) = false := decide_eq_false (by omega)
        go_wp2
        all_goals first | (exfalso; omega) | (go_ret; exact ⟨rfl, bchain HX.out.1 HBr.out⟩)
    · obtain rfl : i = L.secs.length := by omega
      obtain rfl : r = true := HR.out.2.2 hi24 HJ.out
      have d25 : decide ((L.secs.length : Int) ≤ 24) = true := decide_eq_true (by omega)
      go_wp2
      go_ret
      exact ⟨rfl, bchain HX.out.1 HBr.out⟩
end Go.Proofs.YtpcojaoeahdgcaaGreatDoor

/-
  lockbarref09.Over, overs.
-/
namespace Go.Proofs.YtpcojaoeahdgcaaGreatDoor
open Go.RowKit Go.Shelf

theorem overF_cons (L : Lay) (s q : Int) (seen : List Int) (x : Stp) (r : List Stp) : overF L s q seen (x :: r) = (decide (beyL L s q = ⟨x.s, x.i⟩) && !(seen.contains x.s) && overF L x.s x.o (x.s :: seen) r) := rfl

set_option maxRecDepth 100000 in
set_option maxHeartbeats 16000000 in
theorem rOver_any (L : Lay) (P : Where) (x : Int) (w : World) (hL : LayAt w P L) :
    Calls Tryz.prog 98 #[L.val P, .int .i64 x] w fun e w' => e = .returned (.bool (overX L x)) ∧ Below w.heap.size w w' := by
  have hrt := fun W (hb : Below w.heap.size w W) => rRight_any L P W (hL.below hb)
  have m2 : L.exits.length ≤ 9223372036854775807 := Nat.le_trans hL.l2.1 hL.l2.2
  obtain ⟨rr, hrr⟩ : ∃ rr, rr = rightL L := ⟨_, rfl⟩
  obtain ⟨r, hr⟩ : ∃ r, r = overX L x := ⟨_, rfl⟩
  rw [← hr]
  rw [← hrr] at hrt
  have hr0 : rr = false → r = false := fun h => by rw [hr]; unfold overX; rw [← hrr, h]; rfl
  have hr1 : x < 0 → r = false := fun h => by rw [hr]; unfold overX; rw [if_neg (by omega)]; simp
  have hr2 : (L.exits.length : Int) ≤ x → r = false := fun h => by rw [hr]; unfold overX; rw [if_pos (by omega), List.getElem?_eq_none (by omega)]; simp
  have hr3 : rr = true → ∀ (n : Nat) e, x = (n : Int) → L.exits[n]? = some e → r = overF L e.s e.p [e.s] e.over := fun h n e hx he => by
    rw [hr]
    unfold overX
    rw [← hrr, h, Bool.true_and, hx, if_pos (by omega), Int.toNat_natCast, he]
    rfl
  obtain ⟨a0, a1, a2, a3, p0, p1, p2, p3⟩ := P
  have HR := Lib.hid (⟨hr0, hr1, hr2, hr3⟩ : _ ∧ _ ∧ _ ∧ _)
  have HL := Lib.hid hL
  unfold Lay.val at hrt ⊢
  have HRT := Lib.hid hrt
  clear hr hrr hrt hr0 hr1 hr2 hr3 hL
  cases rr with
  | false =>
    obtain rfl : r = false := HR.out.1 rfl
    go_enter Tryz.func98, Tryz.ntmps98
    go_wp2_with fail
    (with_reducible refine (HRT.out (w.alloc (.cells #[.slice a0 L.secs.length p0, .slice a1 L.sigs.length p1, .slice a2 L.exits.length p2, .slice a3 L.flanks.length p3, .int .i64 L.t0, .int .i64 L.t1, .int .i64 L.t2, .int .i64 L.t3, .int .i64 L.t4, .int .i64 L.t5, .int .i64 L.t6] 29)) bself).mono ?_)
    rintro e w1 ⟨rfl, b1⟩
    have HB1 := Lib.hid (bnew b1)
    clear b1
    go_wp2
    go_ret
    exact ⟨rfl, HB1.out⟩
  | true =>
  by_cases hx0 : x < 0
  · obtain rfl : r = false := HR.out.2.1 hx0
    have d0 : decide (x < 0) = true := decide_eq_true hx0
    go_enter Tryz.func98, Tryz.ntmps98
    go_wp2_with fail
    (with_reducible refine (HRT.out (w.alloc (.cells #[.slice a0 L.secs.length p0, .slice a1 L.sigs.length p1, .slice a2 L.exits.length p2, .slice a3 L.flanks.length p3, .int .i64 L.t0, .int .i64 L.t1, .int .i64 L.t2, .int .i64 L.t3, .int .i64 L.t4, .int .i64 L.t5, .int .i64 L.t6] 29)) bself).mono ?_)
    rintro e w1 ⟨rfl, b1⟩
    have HB1 := Lib.hid (bnew b1)
    clear b1
    go_wp2
    go_ret
    exact ⟨rfl, HB1.out⟩
  have d0 : decide (x < 0) = false := decide_eq_false hx0
  obtain ⟨n, rfl⟩ : ∃ n : Nat, x = (n : Int) := ⟨x.toNat, by omega⟩
  by_cases hn : L.exits.length ≤ n
  · obtain rfl : r = false := HR.out.2.2.1 (by omega)
    have d1 : decide ((L.exits.length : Int) ≤ (n : Int)) = true := decide_eq_true (by omega)
    have d2 : decide (L.exits.length ≤ n) = true := decide_eq_true hn
    go_enter Tryz.func98, Tryz.ntmps98
    go_wp2_with fail
    (with_reducible refine (HRT.out (w.alloc (.cells #[.slice a0 L.secs.length p0, .slice a1 L.sigs.length p1, .slice a2 L.exits.length p2, .slice a3 L.flanks.length p3, .int .i64 L.t0, .int .i64 L.t1, .int .i64 L.t2, .int .i64 L.t3, .int .i64 L.t4, .int .i64 L.t5, .int .i64 L.t6] 29)) bself).mono ?_)
    rintro e w1 ⟨rfl, b1⟩
    have HB1 := Lib.hid (bnew b1)
    obtain ⟨c0, c1, c2, c3, c4, c5, c6, c7, c8, c9, c10⟩ := ((BoxL.make (L := L) (p := ⟨a0, a1, a2, a3, p0, p1, p2, p3⟩) 29 (W := w) rfl).below b1).cells
    have lg := Nat.lt_of_lt_of_le (show w.heap.size < (w.alloc (.cells #[.slice a0 L.secs.length p0, .slice a1 L.sigs.length p1, .slice a2 L.exits.length p2, .slice a3 L.flanks.length p3, .int .i64 L.t0, .int .i64 L.t1, .int .i64 L.t2, .int .i64 L.t3, .int .i64 L.t4, .int .i64 L.t5, .int .i64 L.t6] 29)).heap.size by simp) b1.size
    dsimp only at c0 c1 c2 c3
    clear b1
    go_wp2
    go_ret
    exact ⟨rfl, HB1.out⟩
  have hn' : n < L.exits.length := by omega
  have d1 : decide ((L.exits.length : Int) ≤ (n : Int)) = false := decide_eq_false (by omega)
  have d2 : decide (L.exits.length ≤ n) = false := decide_eq_false hn
  obtain ⟨es0, hes, hAt, hov⟩ := HL.out.exits
  have hlen : es0.length = L.exits.length := by rw [← hes, List.length_map]
  obtain ⟨eb, eo, hAe, hrow⟩ := hAt.get (j := n) (by omega)
  obtain ⟨y, hy⟩ : ∃ y, es0[n]? = some y := ⟨es0[n]'(by omega), List.getElem?_eq_getElem (by omega)⟩
  have hx : L.exits[n]? = some y.1 := by rw [← hes, List.getElem?_map, hy]; rfl
  have k0 : w.cell? ⟨eb, eo + n * 3, none⟩ = some (.int .i64 y.1.s) := hrow.2 n y hy 0 _ rfl
  have k1 : w.cell? ⟨eb, eo + n * 3 + 1, none⟩ = some (.int .i64 y.1.p) := hrow.2 n y hy 1 _ rfl
  have k2 : w.cell? ⟨eb, eo + n * 3 + 2, none⟩ = some y.2 := hrow.2 n y hy 2 _ rfl
  obtain ⟨vA, vc, ve, hvl, hvm, hva⟩ := hov y (List.mem_of_getElem? hy)
  rw [ve] at k2
  dsimp only at hAe
  subst hAe
  have lb := hrow.1
  have hrr := HR.out.2.2.2 rfl n y.1 rfl hx
  obtain ⟨⟨es, ep, ov⟩, yv⟩ := y
  dsimp only at k0 k1 k2 hrr hvl hva
  obtain ⟨len, hlen2⟩ : ∃ len, len = ov.length := ⟨_, rfl⟩
  rw [← hlen2] at k2 hvl
  have mo : len ≤ 9223372036854775807 := by have : vc ≤ 9223372036854775807 := hvm; omega
  have HOV := Lib.hid (⟨hlen2, hva⟩ : _ ∧ _)
  have HRR := Lib.hid hrr
  have HK := Lib.hid (⟨k0, k1, k2⟩ : _ ∧ _ ∧ _)
  clear hes hAt hov hlen hrow hy hx ve hvl hvm hva hrr hlen2 hn hx0 HR
  go_enter Tryz.func98, Tryz.ntmps98
  go_wp2_with fail
  (with_reducible refine (HRT.out (w.alloc (.cells #[.slice a0 L.secs.length p0, .slice a1 L.sigs.length p1, .slice (some ⟨eb, eo, none⟩) L.exits.length p2, .slice a3 L.flanks.length p3, .int .i64 L.t0, .int .i64 L.t1, .int .i64 L.t2, .int .i64 L.t3, .int .i64 L.t4, .int .i64 L.t5, .int .i64 L.t6] 29)) bself).mono ?_)
  rintro e w1 ⟨rfl, b1⟩
  have hB1 := bnew b1
  have HBX := Lib.hid ((BoxL.make (L := L) (p := ⟨a0, a1, some ⟨eb, eo, none⟩, a3, p0, p1, p2, p3⟩) 29 (W := w) rfl).below b1)
  obtain ⟨c0, c1, c2, c3, c4, c5, c6, c7, c8, c9, c10⟩ := HBX.out.cells
  have lg := HBX.out.1
  dsimp only at c0 c1 c2 c3
  have hcell := fun o v (h : w.cell? ⟨eb, o, none⟩ = some v) => (hB1.cell (p := ⟨eb, o, none⟩) lb).trans h
  replace k0 := hcell _ _ HK.out.1
  replace k1 := hcell _ _ HK.out.2.1
  replace k2 := hcell _ _ HK.out.2.2
  have lb1 := Nat.lt_of_lt_of_le lb hB1.size
  have HB1 := Lib.hid hB1
  clear b1 hB1 hcell
  go_wp2_with fail
  obtain ⟨X, hX⟩ : ∃ X, X = w1.alloc (.cells #[.int .i64 es, .int .i64 ep] 49) := ⟨_, rfl⟩
  have hBX : Below w.heap.size w X := by rw [hX]; exact bchain HB1.out bself
  have hbx : BoxL X w.heap.size L ⟨a0, a1, some ⟨eb, eo, none⟩, a3, p0, p1, p2, p3⟩ := by rw [hX]; exact HBX.out.below bself
  have q0 : X.cell? ⟨w1.heap.size, 0, none⟩ = some (.int .i64 es) := by rw [hX]; simp [go_sem]
  have q1 : X.cell? ⟨w1.heap.size, 1, none⟩ = some (.int .i64 ep) := by rw [hX]; simp [go_sem]
  have qf : ∀ o, X.frozen? ⟨w1.heap.size, o, none⟩ = false := fun o => by rw [hX]; simp [go_sem]
  have lwg : w.heap.size < w1.heap.size := lg
  rw [← hX]
  have HX := Lib.hid (⟨hBX, hbx, q0, q1, qf⟩ : _ ∧ _ ∧ _ ∧ _ ∧ _)
  clear hX hBX hbx q0 q1 qf c0 c1 c2 c3 c4 c5 c6 c7 c8 c9 c10 k0 k1 k2 lb1 HB1 HBX lg
  generalize w1.heap.size = g5 at HX lwg ⊢
  go_loopw [7] (fun c wr => ∃ (k : Nat) (s q : Int) (ss : List Int), k ≤ len ∧ c = .int .i64 k ∧ Hid (Below w.heap.size w wr ∧ BoxL wr w.heap.size L ⟨a0, a1, some ⟨eb, eo, none⟩, a3, p0, p1, p2, p3⟩ ∧ wr.cell? ⟨g5, 0, none⟩ = some (.int .i64 s) ∧ wr.cell? ⟨g5, 1, none⟩ = some (.int .i64 q) ∧ ∀ o, wr.frozen? ⟨g5, o, none⟩ = false) ∧
      Hid (r = overF L s q ss (ov.drop k)) ∧ Hid (∀ z : Int, z ∈ ss ↔ z = es ∨ ∃ (j : Nat) (y : Stp), j < k ∧ ov[j]? = some y ∧ y.s = z)) (fun c _ => len - (intOf c).toNat)
  case atStart => exact ⟨0, es, ep, [es], Nat.zero_le _, rfl, HX, HRR, Lib.hid (fun z => by
    constructor
    · intro h; exact .inl (List.mem_singleton.1 h)
    · rintro (h | ⟨j, y, hj, _⟩)
      · exact List.mem_singleton.2 h
      · exact absurd hj (Nat.not_lt_zero _))⟩
  case round =>
    obtain ⟨k, s, q, ss, hk, rfl, HI, HQ, HSS⟩ := hrel
    clear HX HRR
    by_cases hlt : k < len
    · obtain ⟨b, off, hAe, hrow⟩ := (HOV.out.2.below HI.out.1).get (j := k) (by rw [← HOV.out.1]; exact hlt)
      subst hAe
      obtain ⟨y, hy⟩ : ∃ y, ov[k]? = some y := ⟨ov[k]'(by rw [← HOV.out.1]; exact hlt), List.getElem?_eq_getElem _⟩
      have hdrop : ov.drop k = y :: ov.drop (k + 1) := by
        have hl : k < ov.length := by rw [← HOV.out.1]; exact hlt
        rw [List.drop_eq_getElem_cons hl]
        have : ov[k] = y := by rw [List.getElem?_eq_getElem hl] at hy; exact Option.some.inj hy
        rw [this]
      have hq := HQ.out
      rw [hdrop, overF_cons] at hq
      obtain ⟨⟨ys, yi, yo⟩, rfl⟩ : ∃ z : Stp, z = y := ⟨_, rfl⟩
      dsimp only at hq
      have z0' : wr.cell? ⟨b, off + k * 3, none⟩ = some (.int .i64 ys) := hrow.2 k _ hy 0 _ rfl
      have z1' : wr.cell? ⟨b, off + k * 3 + 1, none⟩ = some (.int .i64 yi) := hrow.2 k _ hy 1 _ rfl
      have z2' : wr.cell? ⟨b, off + k * 3 + 2, none⟩ = some (.int .i64 yo) := hrow.2 k _ hy 2 _ rfl
      have hbw : b < wr.heap.size := hrow.1
      have hbw0 : b < w.heap.size ∨ True := .inr trivial
      have lebw : eb < w.heap.size := lb
      have leb : eb < wr.heap.size := Nat.lt_of_lt_of_le lb HI.out.1.size
      have e0' : wr.cell? ⟨eb, eo + n * 3, none⟩ = some (.int .i64 es) := (HI.out.1.cell (p := ⟨eb, eo + n * 3, none⟩) lb).trans HK.out.1
      have l5 : g5 < wr.heap.size := World.block_lt_of_cell? _ _ HI.out.2.2.1
      have HBX := Lib.hid HI.out.2.1
      have c2' := HI.out.2.1.cells.2.2.1
      dsimp only at c2'
      have lg := HI.out.2.1.1
      have z0 : ∀ V', ClB wr V' → V'.cell? ⟨b, off + k * 3, none⟩ = some (.int .i64 ys) := fun V' h => (h.cell (p := ⟨b, off + k * 3, none⟩) hbw).trans z0'
      have z1 : ∀ V', ClB wr V' → V'.cell? ⟨b, off + k * 3 + 1, none⟩ = some (.int .i64 yi) := fun V' h => (h.cell (p := ⟨b, off + k * 3 + 1, none⟩) hbw).trans z1'
      have x0 : ∀ V', ClB wr V' → V'.cell? ⟨g5, 0, none⟩ = some (.int .i64 s) := fun V' h => (h.cell (p := ⟨g5, 0, none⟩) l5).trans HI.out.2.2.1
      have x1 : ∀ V', ClB wr V' → V'.cell? ⟨g5, 1, none⟩ = some (.int .i64 q) := fun V' h => (h.cell (p := ⟨g5, 1, none⟩) l5).trans HI.out.2.2.2.1
      have e0 : ∀ V', ClB wr V' → V'.cell? ⟨eb, eo + n * 3, none⟩ = some (.int .i64 es) := fun V' h => (h.cell (p := ⟨eb, eo + n * 3, none⟩) leb).trans e0'
      have c2 : ∀ V', ClB wr V' → V'.cell? ⟨w.heap.size, 2, none⟩ = some (.slice (some ⟨eb, eo, none⟩) L.exits.length p2) := fun V' h => (h.cell (p := ⟨w.heap.size, 2, none⟩) lg).trans c2'
      have hY := fun V' (h : ClB wr V') => rBey_any L ⟨a0, a1, some ⟨eb, eo, none⟩, a3, p0, p1, p2, p3⟩ s q V' (HL.out.below (bchain HI.out.1 h))
      generalize beyL L s q = z at hq hY
      obtain ⟨bs, bp⟩ := z
      dsimp only at hY
      unfold Lay.val at hY
      have HY := Lib.hid hY
      have HROW := Lib.hid (⟨hrow, hy⟩ : _ ∧ _)
      have hkl : k < len := hlt
      have hnl : n < L.exits.length := hn'
      clear hY hrow hy hdrop z0' z1' e0' c2' hbw0
      go_wp2_with fail
      by_cases hE : bs = ys ∧ bp = yi
      · have hqE : ∀ V', (Op.equalIn 10000 49 (.agg #[.int .i64 bs, .int .i64 bp]) (.agg #[.int .i64 ys, .int .i64 yi])).run Tryz.prog V' = .ok true V' := fun V' => by rw [eqQ_portI, decide_eq_true hE]
        have hnE : decide ((⟨bs, bp⟩ : Prt) = ⟨ys, yi⟩) = true := decide_eq_true (by obtain ⟨rfl, rfl⟩ := hE; rfl)
        rw [hnE, Bool.true_and] at hq
        clear hE hnE
        by_cases hes : ys = es
        · subst hes
          obtain rfl : r = false := by
            rw [hq, List.contains_iff_mem.2 ((HSS.out ys).2 (.inl rfl))]; rfl
          clear hq z2'
          focus
            refine wp_region_rel_below [([(2, none)], none), ([(5, none)], none), ([(41, some 1), (42, some 0)], none), ([(6, none)], none), ([(7, none)], none), ([(44, some 1), (45, some 0)], none), ([(46, some 0)], none), ([(47, some 0)], none), ([(6, none)], none), ([(7, none)], none), ([(49, some 1), (50, some 0)], none), ([(51, some 0)], none), ([(52, some 0)], none), ([(48, some 5), (53, some 0)], none), ([(43, some 11), (54, some 0)], none), ([(55, some 0)], none), ([(6, none), (56, some 0)], some (56, false)), ([(7, none), (56, some 1)], some (56, false)), ([(57, some 1), (58, some 0), (56, some 2)], some (56, false)), ([(59, some 0), (56, some 3)], some (56, false)), ([(60, some 0), (56, some 4)], some (56, false)), ([(2, none), (56, some 5)], some (56, false)), ([(62, some 0), (56, some 6)], some (56, false)), ([(1, none), (56, some 7)], some (56, false)), ([(63, some 1), (64, some 0), (56, some 8)], some (56, false)), ([(65, some 0), (56, some 9)], some (56, false)), ([(66, some 0), (56, some 10)], some (56, false)), ([(67, some 0), (56, some 11)], some (56, false)), ([(61, some 7), (68, some 0), (56, some 12)], some (56, false)), ([(56, some 13), (69, some 0)], none)] [(0, 70)] (by kernel_rfl) (by kernel_rfl) ?_
            refine ob_det (c := .agg #[.slice a0 L.secs.length p0, .slice a1 L.sigs.length p1, .slice (some ⟨eb, eo, none⟩) L.exits.length p2, .slice a3 L.flanks.length p3, .int .i64 L.t0, .int .i64 L.t1, .int .i64 L.t2, .int .i64 L.t3, .int .i64 L.t4, .int .i64 L.t5, .int .i64 L.t6]) ?_ ?_
            · intro ρ W hk hC
              simp only [seen, obOp]
              rintro h2
              replace h2 : ρ (.tmp 2) = .pointer (some ⟨w.heap.size, 0, none⟩) := h2.trans rfl
              exact rel_value (runLoad h2 (HBX.out.below hC)) hC
            refine ob_det (c := .agg #[.int .i64 s, .int .i64 q]) ?_ ?_
            · intro ρ W hk hC
              simp only [seen, obOp]
              rintro h5
              replace h5 : ρ (.tmp 5) = .pointer (some ⟨g5, 0, none⟩) := h5.trans rfl
              exact rel_value (by simp [go_sem, h5, x0 W hC, x1 W hC]) hC
            refine ob_det (c := .agg #[.int .i64 bs, .int .i64 bp]) ?_ ?_
            · intro ρ W hk hC
              simp only [seen, obOp, List.getD_cons_zero, List.getD_cons_succ]
              rintro h41 h42
              exact rel_call (f := 36) (args := #[.agg #[.slice a0 L.secs.length p0, .slice a1 L.sigs.length p1, .slice (some ⟨eb, eo, none⟩) L.exits.length p2, .slice a3 L.flanks.length p3, .int .i64 L.t0, .int .i64 L.t1, .int .i64 L.t2, .int .i64 L.t3, .int .i64 L.t4, .int .i64 L.t5, .int .i64 L.t6], .agg #[.int .i64 s, .int .i64 q]]) (by simp [go_sem, h41, h42, hk.func]) hC (HY.out W hC)
            refine ob_det (c := .slice (some ⟨b, off, none⟩) len vc) ?_ ?_
            · intro ρ W hk hC
              simp only [seen, obOp]
              rintro h6
              replace h6 : ρ (.tmp 6) = .slice (some ⟨b, off, none⟩) len vc := h6.trans rfl
              exact rel_value (by simp [go_sem, h6]) hC
            refine ob_det (c := .int .i64 (k : Nat)) ?_ ?_
            · intro ρ W hk hC
              simp only [seen, obOp]
              rintro h7
              replace h7 : ρ (.tmp 7) = .int .i64 (k : Nat) := h7.trans rfl
              exact rel_value (by simp [go_sem, h7]) hC
            refine ob_det (c := .pointer (some ⟨b, off + k * 3, none⟩)) ?_ ?_
            · intro ρ W hk hC
              simp only [seen, obOp, List.getD_cons_zero, List.getD_cons_succ]
              rintro h44 h45
              exact rel_value (by simp [go_sem, h44, h45, hkl]) hC
            refine ob_det (c := .pointer (some ⟨b, off + k * 3, none⟩)) ?_ ?_
            · intro ρ W hk hC
              simp only [seen, obOp, List.getD_cons_zero]
              rintro h46
              exact rel_value (by simp [go_sem, h46]) hC
            refine ob_det (c := .int .i64 ys) ?_ ?_
            · intro ρ W hk hC
              simp only [seen, obOp, List.getD_cons_zero]
              rintro h47
              exact rel_value (by simp [go_sem, h47, z0 W hC]) hC
            refine ob_det (c := .slice (some ⟨b, off, none⟩) len vc) ?_ ?_
            · intro ρ W hk hC
              simp only [seen, obOp]
              rintro h6
              replace h6 : ρ (.tmp 6) = .slice (some ⟨b, off, none⟩) len vc := h6.trans rfl
              exact rel_value (by simp [go_sem, h6]) hC
            refine ob_det (c := .int .i64 (k : Nat)) ?_ ?_
            · intro ρ W hk hC
              simp only [seen, obOp]
              rintro h7
              replace h7 : ρ (.tmp 7) = .int .i64 (k : Nat) := h7.trans rfl
              exact rel_value (by simp [go_sem, h7]) hC
            refine ob_det (c := .pointer (some ⟨b, off + k * 3, none⟩)) ?_ ?_
            · intro ρ W hk hC
              simp only [seen, obOp, List.getD_cons_zero, List.getD_cons_succ]
              rintro h49 h50
              exact rel_value (by simp [go_sem, h49, h50, hkl]) hC
            refine ob_det (c := .pointer (some ⟨b, off + k * 3 + 1, none⟩)) ?_ ?_
            · intro ρ W hk hC
              simp only [seen, obOp, List.getD_cons_zero]
              rintro h51
              exact rel_value (by simp [go_sem, h51]) hC
            refine ob_det (c := .int .i64 yi) ?_ ?_
            · intro ρ W hk hC
              simp only [seen, obOp, List.getD_cons_zero]
              rintro h52
              exact rel_value (by simp [go_sem, h52, z1 W hC]) hC
            refine ob_det (c := .agg #[.int .i64 ys, .int .i64 yi]) ?_ ?_
            · intro ρ W hk hC
              simp only [seen, obOp, List.getD_cons_zero, List.getD_cons_succ]
              rintro h48 h53
              exact rel_value (by simp [go_sem, h48, h53]) hC
            refine ob_det (c := .bool false) ?_ ?_
            · intro ρ W hk hC
              simp only [seen, obOp, List.getD_cons_zero, List.getD_cons_succ]
              rintro h43 h54
              exact rel_value (by simp [go_sem, h43, h54, hqE]) hC
            refine ob_det (c := .bool false) ?_ ?_
            · intro ρ W hk hC
              simp only [seen, obOp, List.getD_cons_zero]
              rintro h55
              exact rel_value (by simp [go_sem, h55]) hC
            refine ob_det (c := .slice (some ⟨b, off, none⟩) len vc) ?_ ?_
            · intro ρ W hk hC
              simp only [seen, obOp, List.getD_cons_zero]
              rintro h6 h56
              replace h6 : ρ (.tmp 6) = .slice (some ⟨b, off, none⟩) len vc := h6.trans rfl
              refine ⟨fun _ => ?_, fun hn => absurd h56 hn⟩
              exact rel_value (by simp [go_sem, h6]) hC
            refine ob_det (c := .int .i64 (k : Nat)) ?_ ?_
            · intro ρ W hk hC
              simp only [seen, obOp, List.getD_cons_zero, List.getD_cons_succ]
              rintro h7 h56
              replace h7 : ρ (.tmp 7) = .int .i64 (k : Nat) := h7.trans rfl
              refine ⟨fun _ => ?_, fun hn => absurd h56 hn⟩
              exact rel_value (by simp [go_sem, h7]) hC
            refine ob_det (c := .pointer (some ⟨b, off + k * 3, none⟩)) ?_ ?_
            · intro ρ W hk hC
              simp only [seen, obOp, List.getD_cons_zero, List.getD_cons_succ]
              rintro h57 h58 h56
              refine ⟨fun _ => ?_, fun hn => absurd h56 hn⟩
              exact rel_value (by simp [go_sem, h57, h58, hkl]) hC
            refine ob_det (c := .pointer (some ⟨b, off + k * 3, none⟩)) ?_ ?_
            · intro ρ W hk hC
              simp only [seen, obOp, List.getD_cons_zero, List.getD_cons_succ]
              rintro h59 h56
              refine ⟨fun _ => ?_, fun hn => absurd h56 hn⟩
              exact rel_value (by simp [go_sem, h59]) hC
            refine ob_det (c := .int .i64 ys) ?_ ?_
            · intro ρ W hk hC
              simp only [seen, obOp, List.getD_cons_zero, List.getD_cons_succ]
              rintro h60 h56
              refine ⟨fun _ => ?_, fun hn => absurd h56 hn⟩
              exact rel_value (by simp [go_sem, h60, z0 W hC]) hC
            refine ob_det (c := .pointer (some ⟨w.heap.size, 2, none⟩)) ?_ ?_
            · intro ρ W hk hC
              simp only [seen, obOp, List.getD_cons_zero, List.getD_cons_succ]
              rintro h2 h56
              replace h2 : ρ (.tmp 2) = .pointer (some ⟨w.heap.size, 0, none⟩) := h2.trans rfl
              refine ⟨fun _ => ?_, fun hn => absurd h56 hn⟩
              exact rel_value (by simp [go_sem, h2]) hC
            refine ob_det (c := .slice (some ⟨eb, eo, none⟩) L.exits.length p2) ?_ ?_
            · intro ρ W hk hC
              simp only [seen, obOp, List.getD_cons_zero, List.getD_cons_succ]
              rintro h62 h56
              refine ⟨fun _ => ?_, fun hn => absurd h56 hn⟩
              exact rel_value (by simp [go_sem, h62, c2 W hC]) hC
            refine ob_det (c := .int .i64 (n : Nat)) ?_ ?_
            · intro ρ W hk hC
              simp only [seen, obOp, List.getD_cons_zero, List.getD_cons_succ]
              rintro h1 h56
              replace h1 : ρ (.tmp 1) = .int .i64 (n : Nat) := h1.trans rfl
              refine ⟨fun _ => ?_, fun hn => absurd h56 hn⟩
              exact rel_value (by simp [go_sem, h1]) hC
            refine ob_det (c := .pointer (some ⟨eb, eo + n * 3, none⟩)) ?_ ?_
            · intro ρ W hk hC
              simp only [seen, obOp, List.getD_cons_zero, List.getD_cons_succ]
              rintro h63 h64 h56
              refine ⟨fun _ => ?_, fun hn => absurd h56 hn⟩
              exact rel_value (by simp [go_sem, h63, h64, hnl]) hC
            refine ob_det (c := .pointer (some ⟨eb, eo + n * 3, none⟩)) ?_ ?_
            · intro ρ W hk hC
              simp only [seen, obOp, List.getD_cons_zero, List.getD_cons_succ]
              rintro h65 h56
              refine ⟨fun _ => ?_, fun hn => absurd h56 hn⟩
              exact rel_value (by simp [go_sem, h65]) hC
            refine ob_det (c := .pointer (some ⟨eb, eo + n * 3, none⟩)) ?_ ?_
            · intro ρ W hk hC
              simp only [seen, obOp, List.getD_cons_zero, List.getD_cons_succ]
              rintro h66 h56
              refine ⟨fun _ => ?_, fun hn => absurd h56 hn⟩
              exact rel_value (by simp [go_sem, h66]) hC
            refine ob_det (c := .int .i64 ys) ?_ ?_
            · intro ρ W hk hC
              simp only [seen, obOp, List.getD_cons_zero, List.getD_cons_succ]
              rintro h67 h56
              refine ⟨fun _ => ?_, fun hn => absurd h56 hn⟩
              exact rel_value (by simp [go_sem, h67, e0 W hC]) hC
            refine ob_det (c := .bool true) ?_ ?_
            · intro ρ W hk hC
              simp only [seen, obOp, List.getD_cons_zero, List.getD_cons_succ]
              rintro h61 h68 h56
              refine ⟨fun _ => ?_, fun hn => absurd h56 hn⟩
              exact rel_value (by simp [go_sem, h61, h68]) hC
            refine ob_det (c := .bool true) ?_ ?_
            · intro ρ W hk hC
              simp only [seen, obOp, List.getD_cons_zero, List.getD_cons_succ]
              rintro h56 h69
              exact rel_value (by simp [go_sem, h56, h69, hk.const]) hC
            intro vs w5 hC5
            simp only [endSeen, List.getD_cons_zero]
            intro h70
            simp only [writeAll, List.setIfInBounds_toArray, List.set_cons_zero, List.set_cons_succ, h70]
            have HB5 := Lib.hid (bchain HI.out.1 hC5)
            clear hC5
            go_wp2
            go_ret
            exact ⟨rfl, HB5.out⟩
        have HQ2 := Lib.hid hq
        clear hq
        focus
          refine wp_region_rel_below [([(2, none)], none), ([(5, none)], none), ([(41, some 1), (42, some 0)], none), ([(6, none)], none), ([(7, none)], none), ([(44, some 1), (45, some 0)], none), ([(46, some 0)], none), ([(47, some 0)], none), ([(6, none)], none), ([(7, none)], none), ([(49, some 1), (50, some 0)], none), ([(51, some 0)], none), ([(52, some 0)], none), ([(48, some 5), (53, some 0)], none), ([(43, some 11), (54, some 0)], none), ([(55, some 0)], none), ([(6, none), (56, some 0)], some (56, false)), ([(7, none), (56, some 1)], some (56, false)), ([(57, some 1), (58, some 0), (56, some 2)], some (56, false)), ([(59, some 0), (56, some 3)], some (56, false)), ([(60, some 0), (56, some 4)], some (56, false)), ([(2, none), (56, some 5)], some (56, false)), ([(62, some 0), (56, some 6)], some (56, false)), ([(1, none), (56, some 7)], some (56, false)), ([(63, some 1), (64, some 0), (56, some 8)], some (56, false)), ([(65, some 0), (56, some 9)], some (56, false)), ([(66, some 0), (56, some 10)], some (56, false)), ([(67, some 0), (56, some 11)], some (56, false)), ([(61, some 7), (68, some 0), (56, some 12)], some (56, false)), ([(56, some 13), (69, some 0)], none)] [(0, 70)] (by kernel_rfl) (by kernel_rfl) ?_
          refine ob_det (c := .agg #[.slice a0 L.secs.length p0, .slice a1 L.sigs.length p1, .slice (some ⟨eb, eo, none⟩) L.exits.length p2, .slice a3 L.flanks.length p3, .int .i64 L.t0, .int .i64 L.t1, .int .i64 L.t2, .int .i64 L.t3, .int .i64 L.t4, .int .i64 L.t5, .int .i64 L.t6]) ?_ ?_
          · intro ρ W hk hC
            simp only [seen, obOp]
            rintro h2
            replace h2 : ρ (.tmp 2) = .pointer (some ⟨w.heap.size, 0, none⟩) := h2.trans rfl
            exact rel_value (runLoad h2 (HBX.out.below hC)) hC
          refine ob_det (c := .agg #[.int .i64 s, .int .i64 q]) ?_ ?_
          · intro ρ W hk hC
            simp only [seen, obOp]
            rintro h5
            replace h5 : ρ (.tmp 5) = .pointer (some ⟨g5, 0, none⟩) := h5.trans rfl
            exact rel_value (by simp [go_sem, h5, x0 W hC, x1 W hC]) hC
          refine ob_det (c := .agg #[.int .i64 bs, .int .i64 bp]) ?_ ?_
          · intro ρ W hk hC
            simp only [seen, obOp, List.getD_cons_zero, List.getD_cons_succ]
            rintro h41 h42
            exact rel_call (f := 36) (args := #[.agg #[.slice a0 L.secs.length p0, .slice a1 L.sigs.length p1, .slice (some ⟨eb, eo, none⟩) L.exits.length p2, .slice a3 L.flanks.length p3, .int .i64 L.t0, .int .i64 L.t1, .int .i64 L.t2, .int .i64 L.t3, .int .i64 L.t4, .int .i64 L.t5, .int .i64 L.t6], .agg #[.int .i64 s, .int .i64 q]]) (by simp [go_sem, h41, h42, hk.func]) hC (HY.out W hC)
          refine ob_det (c := .slice (some ⟨b, off, none⟩) len vc) ?_ ?_
          · intro ρ W hk hC
            simp only [seen, obOp]
            rintro h6
            replace h6 : ρ (.tmp 6) = .slice (some ⟨b, off, none⟩) len vc := h6.trans rfl
            exact rel_value (by simp [go_sem, h6]) hC
          refine ob_det (c := .int .i64 (k : Nat)) ?_ ?_
          · intro ρ W hk hC
            simp only [seen, obOp]
            rintro h7
            replace h7 : ρ (.tmp 7) = .int .i64 (k : Nat) := h7.trans rfl
            exact rel_value (by simp [go_sem, h7]) hC
          refine ob_det (c := .pointer (some ⟨b, off + k * 3, none⟩)) ?_ ?_
          · intro ρ W hk hC
            simp only [seen, obOp, List.getD_cons_zero, List.getD_cons_succ]
            rintro h44 h45
            exact rel_value (by simp [go_sem, h44, h45, hkl]) hC
          refine ob_det (c := .pointer (some ⟨b, off + k * 3, none⟩)) ?_ ?_
          · intro ρ W hk hC
            simp only [seen, obOp, List.getD_cons_zero]
            rintro h46
            exact rel_value (by simp [go_sem, h46]) hC
          refine ob_det (c := .int .i64 ys) ?_ ?_
          · intro ρ W hk hC
            simp only [seen, obOp, List.getD_cons_zero]
            rintro h47
            exact rel_value (by simp [go_sem, h47, z0 W hC]) hC
          refine ob_det (c := .slice (some ⟨b, off, none⟩) len vc) ?_ ?_
          · intro ρ W hk hC
            simp only [seen, obOp]
            rintro h6
            replace h6 : ρ (.tmp 6) = .slice (some ⟨b, off, none⟩) len vc := h6.trans rfl
            exact rel_value (by simp [go_sem, h6]) hC
          refine ob_det (c := .int .i64 (k : Nat)) ?_ ?_
          · intro ρ W hk hC
            simp only [seen, obOp]
            rintro h7
            replace h7 : ρ (.tmp 7) = .int .i64 (k : Nat) := h7.trans rfl
            exact rel_value (by simp [go_sem, h7]) hC
          refine ob_det (c := .pointer (some ⟨b, off + k * 3, none⟩)) ?_ ?_
          · intro ρ W hk hC
            simp only [seen, obOp, List.getD_cons_zero, List.getD_cons_succ]
            rintro h49 h50
            exact rel_value (by simp [go_sem, h49, h50, hkl]) hC
          refine ob_det (c := .pointer (some ⟨b, off + k * 3 + 1, none⟩)) ?_ ?_
          · intro ρ W hk hC
            simp only [seen, obOp, List.getD_cons_zero]
            rintro h51
            exact rel_value (by simp [go_sem, h51]) hC
          refine ob_det (c := .int .i64 yi) ?_ ?_
          · intro ρ W hk hC
            simp only [seen, obOp, List.getD_cons_zero]
            rintro h52
            exact rel_value (by simp [go_sem, h52, z1 W hC]) hC
          refine ob_det (c := .agg #[.int .i64 ys, .int .i64 yi]) ?_ ?_
          · intro ρ W hk hC
            simp only [seen, obOp, List.getD_cons_zero, List.getD_cons_succ]
            rintro h48 h53
            exact rel_value (by simp [go_sem, h48, h53]) hC
          refine ob_det (c := .bool false) ?_ ?_
          · intro ρ W hk hC
            simp only [seen, obOp, List.getD_cons_zero, List.getD_cons_succ]
            rintro h43 h54
            exact rel_value (by simp [go_sem, h43, h54, hqE]) hC
          refine ob_det (c := .bool false) ?_ ?_
          · intro ρ W hk hC
            simp only [seen, obOp, List.getD_cons_zero]
            rintro h55
            exact rel_value (by simp [go_sem, h55]) hC
          refine ob_det (c := .slice (some ⟨b, off, none⟩) len vc) ?_ ?_
          · intro ρ W hk hC
            simp only [seen, obOp, List.getD_cons_zero]
            rintro h6 h56
            replace h6 : ρ (.tmp 6) = .slice (some ⟨b, off, none⟩) len vc := h6.trans rfl
            refine ⟨fun _ => ?_, fun hn => absurd h56 hn⟩
            exact rel_value (by simp [go_sem, h6]) hC
          refine ob_det (c := .int .i64 (k : Nat)) ?_ ?_
          · intro ρ W hk hC
            simp only [seen, obOp, List.getD_cons_zero, List.getD_cons_succ]
            rintro h7 h56
            replace h7 : ρ (.tmp 7) = .int .i64 (k : Nat) := h7.trans rfl
            refine ⟨fun _ => ?_, fun hn => absurd h56 hn⟩
            exact rel_value (by simp [go_sem, h7]) hC
          refine ob_det (c := .pointer (some ⟨b, off + k * 3, none⟩)) ?_ ?_
          · intro ρ W hk hC
            simp only [seen, obOp, List.getD_cons_zero, List.getD_cons_succ]
            rintro h57 h58 h56
            refine ⟨fun _ => ?_, fun hn => absurd h56 hn⟩
            exact rel_value (by simp [go_sem, h57, h58, hkl]) hC
          refine ob_det (c := .pointer (some ⟨b, off + k * 3, none⟩)) ?_ ?_
          · intro ρ W hk hC
            simp only [seen, obOp, List.getD_cons_zero, List.getD_cons_succ]
            rintro h59 h56
            refine ⟨fun _ => ?_, fun hn => absurd h56 hn⟩
            exact rel_value (by simp [go_sem, h59]) hC
          refine ob_det (c := .int .i64 ys) ?_ ?_
          · intro ρ W hk hC
            simp only [seen, obOp, List.getD_cons_zero, List.getD_cons_succ]
            rintro h60 h56
            refine ⟨fun _ => ?_, fun hn => absurd h56 hn⟩
            exact rel_value (by simp [go_sem, h60, z0 W hC]) hC
          refine ob_det (c := .pointer (some ⟨w.heap.size, 2, none⟩)) ?_ ?_
          · intro ρ W hk hC
            simp only [seen, obOp, List.getD_cons_zero, List.getD_cons_succ]
            rintro h2 h56
            replace h2 : ρ (.tmp 2) = .pointer (some ⟨w.heap.size, 0, none⟩) := h2.trans rfl
            refine ⟨fun _ => ?_, fun hn => absurd h56 hn⟩
            exact rel_value (by simp [go_sem, h2]) hC
          refine ob_det (c := .slice (some ⟨eb, eo, none⟩) L.exits.length p2) ?_ ?_
          · intro ρ W hk hC
            simp only [seen, obOp, List.getD_cons_zero, List.getD_cons_succ]
            rintro h62 h56
            refine ⟨fun _ => ?_, fun hn => absurd h56 hn⟩
            exact rel_value (by simp [go_sem, h62, c2 W hC]) hC
          refine ob_det (c := .int .i64 (n : Nat)) ?_ ?_
          · intro ρ W hk hC
            simp only [seen, obOp, List.getD_cons_zero, List.getD_cons_succ]
            rintro h1 h56
            replace h1 : ρ (.tmp 1) = .int .i64 (n : Nat) := h1.trans rfl
            refine ⟨fun _ => ?_, fun hn => absurd h56 hn⟩
            exact rel_value (by simp [go_sem, h1]) hC
          refine ob_det (c := .pointer (some ⟨eb, eo + n * 3, none⟩)) ?_ ?_
          · intro ρ W hk hC
            simp only [seen, obOp, List.getD_cons_zero, List.getD_cons_succ]
            rintro h63 h64 h56
            refine ⟨fun _ => ?_, fun hn => absurd h56 hn⟩
            exact rel_value (by simp [go_sem, h63, h64, hnl]) hC
          refine ob_det (c := .pointer (some ⟨eb, eo + n * 3, none⟩)) ?_ ?_
          · intro ρ W hk hC
            simp only [seen, obOp, List.getD_cons_zero, List.getD_cons_succ]
            rintro h65 h56
            refine ⟨fun _ => ?_, fun hn => absurd h56 hn⟩
            exact rel_value (by simp [go_sem, h65]) hC
          refine ob_det (c := .pointer (some ⟨eb, eo + n * 3, none⟩)) ?_ ?_
          · intro ρ W hk hC
            simp only [seen, obOp, List.getD_cons_zero, List.getD_cons_succ]
            rintro h66 h56
            refine ⟨fun _ => ?_, fun hn => absurd h56 hn⟩
            exact rel_value (by simp [go_sem, h66]) hC
          refine ob_det (c := .int .i64 es) ?_ ?_
          · intro ρ W hk hC
            simp only [seen, obOp, List.getD_cons_zero, List.getD_cons_succ]
            rintro h67 h56
            refine ⟨fun _ => ?_, fun hn => absurd h56 hn⟩
            exact rel_value (by simp [go_sem, h67, e0 W hC]) hC
          refine ob_det (c := .bool false) ?_ ?_
          · intro ρ W hk hC
            simp only [seen, obOp, List.getD_cons_zero, List.getD_cons_succ]
            rintro h61 h68 h56
            refine ⟨fun _ => ?_, fun hn => absurd h56 hn⟩
            exact rel_value (by simp [go_sem, h61, h68, hes]) hC
          refine ob_det (c := .bool false) ?_ ?_
          · intro ρ W hk hC
            simp only [seen, obOp, List.getD_cons_zero, List.getD_cons_succ]
            rintro h56 h69
            exact rel_value (by simp [go_sem, h56, h69, hk.const]) hC
          intro vs w5 hC5
          simp only [endSeen, List.getD_cons_zero]
          intro h70
          simp only [writeAll, List.setIfInBounds_toArray, List.set_cons_zero, List.set_cons_succ, h70]
          have hB5 := bchain HI.out.1 hC5
          have hBX5 := HBX.out.below hC5
          have x05 := x0 _ hC5
          have x15 := x1 _ hC5
          have xf5 := fun o => (hC5.frozen (p := ⟨g5, o, none⟩) l5).trans (HI.out.2.2.2.2 o)
          have HRO := Lib.hid (⟨HROW.out.1.below hC5, HROW.out.2⟩ : _ ∧ _)
          have H5 := Lib.hid (⟨hB5, hBX5, x05, x15, xf5⟩ : _ ∧ _ ∧ _ ∧ _ ∧ _)
          have lbw5 := Nat.lt_of_lt_of_le hbw hC5.size
          clear hC5 hB5 hBX5 x05 x15 xf5 z0 z1 x0 x1 e0 c2 hqE z2' HBX HROW
          go_wp2_with fail
          go_loopw [8] (fun c wi => ∃ i : Nat, i ≤ k ∧ c = .int .i64 i ∧ Hid (Below w5.heap.size w5 wi) ∧ Hid (∀ (j : Nat) (y : Stp), j < i → ov[j]? = some y → y.s ≠ ys)) (fun c _ => k - (intOf c).toNat)
          case atStart => exact ⟨0, Nat.zero_le _, rfl, Lib.hid (Below.refl _ _), Lib.hid (fun j _ hj => absurd hj (Nat.not_lt_zero _))⟩
          case round =>
            obtain ⟨i, hi, rfl, HBi, HN⟩ := hrel
            obtain ⟨wi, rfl⟩ : ∃ wi : World, wi = wr := ⟨_, rfl⟩
            have hrow := HRO.out.1.below HBi.out
            have t0 : wi.cell? ⟨b, off + k * 3, none⟩ = some (.int .i64 ys) := hrow.2 k _ HRO.out.2 0 _ rfl
            have lbi := hrow.1
            have HB6 := Lib.hid (bchain H5.out.1 HBi.out)
            by_cases hlti : i < k
            · obtain ⟨v, hv⟩ : ∃ v, ov[i]? = some v := ⟨ov[i]'(by rw [← HOV.out.1]; omega), List.getElem?_eq_getElem _⟩
              have u0 : wi.cell? ⟨b, off + i * 3, none⟩ = some (.int .i64 v.s) := hrow.2 i _ hv 0 _ rfl
              have HV := Lib.hid hv
              have hil : i < len := by omega
              generalize hvs : v.s = vs0 at u0
              have HVS := Lib.hid hvs
              clear hrow hv hvs
              by_cases hE2 : vs0 = ys
              · subst hE2
                obtain rfl : r = false := by
                  rw [HQ2.out, List.contains_iff_mem.2 ((HSS.out vs0).2 (.inr ⟨i, v, hlti, HV.out, HVS.out⟩))]; rfl
                go_wp2_with fail
                refine wp_region_ext (by kernel_rfl) (by kernel_rfl) fun hxx => ?_
                repeat (go_big_quiet_step (fail))
                refine wpQuiet_nil ?_
                intro w7 b7
                have HB7 := Lib.hid (bchain HB6.out b7)
                clear b7 hxx t0 u0
                go_wp2
                go_ret
                exact ⟨rfl, HB7.out⟩
              · have dE : decide (vs0 = ys) = false := decide_eq_false hE2
                go_wp2_with fail
                refine wp_region_ext (by kernel_rfl) (by kernel_rfl) fun hxx => ?_
                repeat (go_big_quiet_step (fail))
                refine wpQuiet_nil ?_
                intro w7 b7
                have HB7 := Lib.hid (bchain HBi.out b7)
                clear b7 hxx t0 u0 dE
                go_wp2
                go_roundw
                case rel => exact ⟨i + 1, by omega, by go_num, HB7, Lib.hid (fun j y hj hy => by
                  by_cases e : j = i
                  · subst e
                    rw [HV.out] at hy
                    cases hy
                    rw [HVS.out]
                    exact hE2
                  · exact HN.out j y (by omega) hy)⟩
                case measure => simp [intOf]; omega
            · obtain rfl : i = k := by omega
              have t1 : wi.cell? ⟨b, off + i * 3 + 2, none⟩ = some (.int .i64 yo) := hrow.2 i _ HRO.out.2 2 _ rfl
              have hbx6 := H5.out.2.1.below HBi.out
              have l55 := World.block_lt_of_cell? _ _ H5.out.2.2.1
              have l56 : g5 < wi.heap.size := Nat.lt_of_lt_of_le (World.block_lt_of_cell? _ _ H5.out.2.2.1) HBi.out.size
              have x06 := (HBi.out.cell (p := ⟨g5, 0, none⟩) (World.block_lt_of_cell? _ _ H5.out.2.2.1)).trans H5.out.2.2.1
              have x16 := (HBi.out.cell (p := ⟨g5, 1, none⟩) l55).trans H5.out.2.2.2.1
              have xf6 := fun o => (HBi.out.frozen (p := ⟨g5, o, none⟩) l55).trans (H5.out.2.2.2.2 o)
              have HW6 := Lib.hid hbx6
              have hnin : (ss.contains ys) = false := by
                cases hc : ss.contains ys with
                | false => rfl
                | true =>
                  rcases (HSS.out ys).1 (List.contains_iff_mem.1 hc) with h | ⟨j, y, hj, hy, hs⟩
                  · exact absurd h hes
                  · exact absurd hs (HN.out j y hj hy)
              have hq3 := HQ2.out
              rw [hnin, Bool.not_false, Bool.true_and] at hq3
              have HQ3 := Lib.hid hq3
              have xf0 := xf6 0
              have xf1 := xf6 1
              clear hbx6 hrow hnin hq3
              go_wp2_with fail
              go_still_tail 11, (by kernel_rfl)
              obtain ⟨D, hD⟩ : ∃ D, D = wi.drew := ⟨_, rfl⟩
              have hBD : Below wi.heap.size wi D := by rw [hD]; exact (Below.refl _ _).drew
              rw [show ({ heap := wi.heap, tape := wi.tape, drawn := wi.drawn + 1, os := wi.os, output := wi.output } : World) = D from hD.symm]
              replace x06 := (hBD.cell (p := ⟨g5, 0, none⟩) l56).trans x06
              replace x16 := (hBD.cell (p := ⟨g5, 1, none⟩) l56).trans x16
              replace xf0 := (hBD.frozen (p := ⟨g5, 0, none⟩) l56).trans xf0
              replace xf1 := (hBD.frozen (p := ⟨g5, 1, none⟩) l56).trans xf1
              have hBXD := HW6.out.below hBD
              have hwD := bchain HB6.out hBD
              have l5D : g5 < D.heap.size := Nat.lt_of_lt_of_le l56 hBD.size
              have HD := Lib.hid (⟨hBXD, hwD, fun o => (hBD.frozen (p := ⟨g5, o, none⟩) l56).trans (xf6 o)⟩ : _ ∧ _ ∧ _)
              clear hD hBD xf6 hBXD hwD t0 t1 l55 l56
              go_wp2
              have hfin : Below w.heap.size w ((D.setCell ⟨g5, 0, none⟩ (.int .i64 ys)).setCell ⟨g5, 1, none⟩ (.int .i64 yo)) := (HD.out.2.1.setCell (p := ⟨g5, 0, none⟩) (by dsimp only; omega) _).setCell (p := ⟨g5, 1, none⟩) (by dsimp only; omega) _
              have hfbx : BoxL ((D.setCell ⟨g5, 0, none⟩ (.int .i64 ys)).setCell ⟨g5, 1, none⟩ (.int .i64 yo)) w.heap.size L ⟨a0, a1, some ⟨eb, eo, none⟩, a3, p0, p1, p2, p3⟩ := (HD.out.1.set (by omega)).set (by omega)
              have hff : ∀ o, ((D.setCell ⟨g5, 0, none⟩ (.int .i64 ys)).setCell ⟨g5, 1, none⟩ (.int .i64 yo)).frozen? ⟨g5, o, none⟩ = false := fun o => by rw [World.frozen?_setCell, World.frozen?_setCell]; exact HD.out.2.2 o
              go_roundw
              case rel => exact ⟨i + 1, ys, yo, ys :: ss, by omega, by go_num, Lib.hid ⟨hfin, hfbx, by simp [go_sem, x06], by simp [go_sem, x16], hff⟩, HQ3, Lib.hid (fun z => by
                rw [List.mem_cons, HSS.out]
                constructor
                · rintro (rfl | h | ⟨j, y, hj, hy, hs⟩)
                  · exact .inr ⟨i, _, by omega, HRO.out.2, rfl⟩
                  · exact .inl h
                  · exact .inr ⟨j, y, by omega, hy, hs⟩
                · rintro (h | ⟨j, y, hj, hy, hs⟩)
                  · exact .inr (.inl h)
                  · by_cases e : j = i
                    · subst e
                      rw [HRO.out.2] at hy
                      cases hy
                      exact .inl hs.symm
                    · exact .inr (.inr ⟨j, y, by omega, hy, hs⟩))⟩
              case measure => simp [intOf]; omega
      · have hqE : ∀ V', (Op.equalIn 10000 49 (.agg #[.int .i64 bs, .int .i64 bp]) (.agg #[.int .i64 ys, .int .i64 yi])).run Tryz.prog V' = .ok false V' := fun V' => by rw [eqQ_portI, decide_eq_false hE]
        have hnE : decide ((⟨bs, bp⟩ : Prt) = ⟨ys, yi⟩) = false := decide_eq_false (fun h => hE (by cases h; exact ⟨rfl, rfl⟩))
        obtain rfl : r = false := by rw [hq, hnE]; rfl
        clear hq hE hnE z2'
        focus
          refine wp_region_rel_below [([(2, none)], none), ([(5, none)], none), ([(41, some 1), (42, some 0)], none), ([(6, none)], none), ([(7, none)], none), ([(44, some 1), (45, some 0)], none), ([(46, some 0)], none), ([(47, some 0)], none), ([(6, none)], none), ([(7, none)], none), ([(49, some 1), (50, some 0)], none), ([(51, some 0)], none), ([(52, some 0)], none), ([(48, some 5), (53, some 0)], none), ([(43, some 11), (54, some 0)], none), ([(55, some 0)], none), ([(6, none), (56, some 0)], some (56, false)), ([(7, none), (56, some 1)], some (56, false)), ([(57, some 1), (58, some 0), (56, some 2)], some (56, false)), ([(59, some 0), (56, some 3)], some (56, false)), ([(60, some 0), (56, some 4)], some (56, false)), ([(2, none), (56, some 5)], some (56, false)), ([(62, some 0), (56, some 6)], some (56, false)), ([(1, none), (56, some 7)], some (56, false)), ([(63, some 1), (64, some 0), (56, some 8)], some (56, false)), ([(65, some 0), (56, some 9)], some (56, false)), ([(66, some 0), (56, some 10)], some (56, false)), ([(67, some 0), (56, some 11)], some (56, false)), ([(61, some 7), (68, some 0), (56, some 12)], some (56, false)), ([(56, some 13), (69, some 0)], none)] [(0, 70)] (by kernel_rfl) (by kernel_rfl) ?_
          refine ob_det (c := .agg #[.slice a0 L.secs.length p0, .slice a1 L.sigs.length p1, .slice (some ⟨eb, eo, none⟩) L.exits.length p2, .slice a3 L.flanks.length p3, .int .i64 L.t0, .int .i64 L.t1, .int .i64 L.t2, .int .i64 L.t3, .int .i64 L.t4, .int .i64 L.t5, .int .i64 L.t6]) ?_ ?_
          · intro ρ W hk hC
            simp only [seen, obOp]
            rintro h2
            replace h2 : ρ (.tmp 2) = .pointer (some ⟨w.heap.size, 0, none⟩) := h2.trans rfl
            exact rel_value (runLoad h2 (HBX.out.below hC)) hC
          refine ob_det (c := .agg #[.int .i64 s, .int .i64 q]) ?_ ?_
          · intro ρ W hk hC
            simp only [seen, obOp]
            rintro h5
            replace h5 : ρ (.tmp 5) = .pointer (some ⟨g5, 0, none⟩) := h5.trans rfl
            exact rel_value (by simp [go_sem, h5, x0 W hC, x1 W hC]) hC
          refine ob_det (c := .agg #[.int .i64 bs, .int .i64 bp]) ?_ ?_
          · intro ρ W hk hC
            simp only [seen, obOp, List.getD_cons_zero, List.getD_cons_succ]
            rintro h41 h42
            exact rel_call (f := 36) (args := #[.agg #[.slice a0 L.secs.length p0, .slice a1 L.sigs.length p1, .slice (some ⟨eb, eo, none⟩) L.exits.length p2, .slice a3 L.flanks.length p3, .int .i64 L.t0, .int .i64 L.t1, .int .i64 L.t2, .int .i64 L.t3, .int .i64 L.t4, .int .i64 L.t5, .int .i64 L.t6], .agg #[.int .i64 s, .int .i64 q]]) (by simp [go_sem, h41, h42, hk.func]) hC (HY.out W hC)
          refine ob_det (c := .slice (some ⟨b, off, none⟩) len vc) ?_ ?_
          · intro ρ W hk hC
            simp only [seen, obOp]
            rintro h6
            replace h6 : ρ (.tmp 6) = .slice (some ⟨b, off, none⟩) len vc := h6.trans rfl
            exact rel_value (by simp [go_sem, h6]) hC
          refine ob_det (c := .int .i64 (k : Nat)) ?_ ?_
          · intro ρ W hk hC
            simp only [seen, obOp]
            rintro h7
            replace h7 : ρ (.tmp 7) = .int .i64 (k : Nat) := h7.trans rfl
            exact rel_value (by simp [go_sem, h7]) hC
          refine ob_det (c := .pointer (some ⟨b, off + k * 3, none⟩)) ?_ ?_
          · intro ρ W hk hC
            simp only [seen, obOp, List.getD_cons_zero, List.getD_cons_succ]
            rintro h44 h45
            exact rel_value (by simp [go_sem, h44, h45, hkl]) hC
          refine ob_det (c := .pointer (some ⟨b, off + k * 3, none⟩)) ?_ ?_
          · intro ρ W hk hC
            simp only [seen, obOp, List.getD_cons_zero]
            rintro h46
            exact rel_value (by simp [go_sem, h46]) hC
          refine ob_det (c := .int .i64 ys) ?_ ?_
          · intro ρ W hk hC
            simp only [seen, obOp, List.getD_cons_zero]
            rintro h47
            exact rel_value (by simp [go_sem, h47, z0 W hC]) hC
          refine ob_det (c := .slice (some ⟨b, off, none⟩) len vc) ?_ ?_
          · intro ρ W hk hC
            simp only [seen, obOp]
            rintro h6
            replace h6 : ρ (.tmp 6) = .slice (some ⟨b, off, none⟩) len vc := h6.trans rfl
            exact rel_value (by simp [go_sem, h6]) hC
          refine ob_det (c := .int .i64 (k : Nat)) ?_ ?_
          · intro ρ W hk hC
            simp only [seen, obOp]
            rintro h7
            replace h7 : ρ (.tmp 7) = .int .i64 (k : Nat) := h7.trans rfl
            exact rel_value (by simp [go_sem, h7]) hC
          refine ob_det (c := .pointer (some ⟨b, off + k * 3, none⟩)) ?_ ?_
          · intro ρ W hk hC
            simp only [seen, obOp, List.getD_cons_zero, List.getD_cons_succ]
            rintro h49 h50
            exact rel_value (by simp [go_sem, h49, h50, hkl]) hC
          refine ob_det (c := .pointer (some ⟨b, off + k * 3 + 1, none⟩)) ?_ ?_
          · intro ρ W hk hC
            simp only [seen, obOp, List.getD_cons_zero]
            rintro h51
            exact rel_value (by simp [go_sem, h51]) hC
          refine ob_det (c := .int .i64 yi) ?_ ?_
          · intro ρ W hk hC
            simp only [seen, obOp, List.getD_cons_zero]
            rintro h52
            exact rel_value (by simp [go_sem, h52, z1 W hC]) hC
          refine ob_det (c := .agg #[.int .i64 ys, .int .i64 yi]) ?_ ?_
          · intro ρ W hk hC
            simp only [seen, obOp, List.getD_cons_zero, List.getD_cons_succ]
            rintro h48 h53
            exact rel_value (by simp [go_sem, h48, h53]) hC
          refine ob_det (c := .bool true) ?_ ?_
          · intro ρ W hk hC
            simp only [seen, obOp, List.getD_cons_zero, List.getD_cons_succ]
            rintro h43 h54
            exact rel_value (by simp [go_sem, h43, h54, hqE]) hC
          refine ob_det (c := .bool true) ?_ ?_
          · intro ρ W hk hC
            simp only [seen, obOp, List.getD_cons_zero]
            rintro h55
            exact rel_value (by simp [go_sem, h55]) hC
          refine ob_det (c := undef) ?_ ?_
          · intro ρ W hk hC
            simp only [seen, obOp, List.getD_cons_zero]
            rintro h6 h56
            replace h6 : ρ (.tmp 6) = .slice (some ⟨b, off, none⟩) len vc := h6.trans rfl
            exact ⟨fun h => absurd (h.symm.trans h56) (by first | simp | simp [undef]), fun _ => by trivial⟩
          refine ob_det (c := undef) ?_ ?_
          · intro ρ W hk hC
            simp only [seen, obOp, List.getD_cons_zero, List.getD_cons_succ]
            rintro h7 h56
            replace h7 : ρ (.tmp 7) = .int .i64 (k : Nat) := h7.trans rfl
            exact ⟨fun h => absurd (h.symm.trans h56) (by first | simp | simp [undef]), fun _ => by trivial⟩
          refine ob_det (c := undef) ?_ ?_
          · intro ρ W hk hC
            simp only [seen, obOp, List.getD_cons_zero, List.getD_cons_succ]
            rintro h57 h58 h56
            exact ⟨fun h => absurd (h.symm.trans h56) (by first | simp | simp [undef]), fun _ => by trivial⟩
          refine ob_det (c := undef) ?_ ?_
          · intro ρ W hk hC
            simp only [seen, obOp, List.getD_cons_zero, List.getD_cons_succ]
            rintro h59 h56
            exact ⟨fun h => absurd (h.symm.trans h56) (by first | simp | simp [undef]), fun _ => by trivial⟩
          refine ob_det (c := undef) ?_ ?_
          · intro ρ W hk hC
            simp only [seen, obOp, List.getD_cons_zero, List.getD_cons_succ]
            rintro h60 h56
            exact ⟨fun h => absurd (h.symm.trans h56) (by first | simp | simp [undef]), fun _ => by trivial⟩
          refine ob_det (c := undef) ?_ ?_
          · intro ρ W hk hC
            simp only [seen, obOp, List.getD_cons_zero, List.getD_cons_succ]
            rintro h2 h56
            replace h2 : ρ (.tmp 2) = .pointer (some ⟨w.heap.size, 0, none⟩) := h2.trans rfl
            exact ⟨fun h => absurd (h.symm.trans h56) (by first | simp | simp [undef]), fun _ => by trivial⟩
          refine ob_det (c := undef) ?_ ?_
          · intro ρ W hk hC
            simp only [seen, obOp, List.getD_cons_zero, List.getD_cons_succ]
            rintro h62 h56
            exact ⟨fun h => absurd (h.symm.trans h56) (by first | simp | simp [undef]), fun _ => by trivial⟩
          refine ob_det (c := undef) ?_ ?_
          · intro ρ W hk hC
            simp only [seen, obOp, List.getD_cons_zero, List.getD_cons_succ]
            rintro h1 h56
            replace h1 : ρ (.tmp 1) = .int .i64 (n : Nat) := h1.trans rfl
            exact ⟨fun h => absurd (h.symm.trans h56) (by first | simp | simp [undef]), fun _ => by trivial⟩
          refine ob_det (c := undef) ?_ ?_
          · intro ρ W hk hC
            simp only [seen, obOp, List.getD_cons_zero, List.getD_cons_succ]
            rintro h63 h64 h56
            exact ⟨fun h => absurd (h.symm.trans h56) (by first | simp | simp [undef]), fun _ => by trivial⟩
          refine ob_det (c := undef) ?_ ?_
          · intro ρ W hk hC
            simp only [seen, obOp, List.getD_cons_zero, List.getD_cons_succ]
            rintro h65 h56
            exact ⟨fun h => absurd (h.symm.trans h56) (by first | simp | simp [undef]), fun _ => by trivial⟩
          refine ob_det (c := undef) ?_ ?_
          · intro ρ W hk hC
            simp only [seen, obOp, List.getD_cons_zero, List.getD_cons_succ]
            rintro h66 h56
            exact ⟨fun h => absurd (h.symm.trans h56) (by first | simp | simp [undef]), fun _ => by trivial⟩
          refine ob_det (c := undef) ?_ ?_
          · intro ρ W hk hC
            simp only [seen, obOp, List.getD_cons_zero, List.getD_cons_succ]
            rintro h67 h56
            exact ⟨fun h => absurd (h.symm.trans h56) (by first | simp | simp [undef]), fun _ => by trivial⟩
          refine ob_det (c := undef) ?_ ?_
          · intro ρ W hk hC
            simp only [seen, obOp, List.getD_cons_zero, List.getD_cons_succ]
            rintro h61 h68 h56
            exact ⟨fun h => absurd (h.symm.trans h56) (by first | simp | simp [undef]), fun _ => by trivial⟩
          refine ob_det (c := .bool true) ?_ ?_
          · intro ρ W hk hC
            simp only [seen, obOp, List.getD_cons_zero, List.getD_cons_succ]
            rintro h56 h69
            exact rel_value (by simp [go_sem, h56, h69, hk.const]) hC
          intro vs w5 hC5
          simp only [endSeen, List.getD_cons_zero]
          intro h70
          simp only [writeAll, List.setIfInBounds_toArray, List.set_cons_zero, List.set_cons_succ, h70]
          have HB5 := Lib.hid (bchain HI.out.1 hC5)
          clear hC5
          go_wp2
          go_ret
          exact ⟨rfl, HB5.out⟩
    · obtain rfl : k = len := by omega
      obtain rfl : r = true := by
        rw [HQ.out, List.drop_of_length_le (by rw [← HOV.out.1]; exact Nat.le_refl _)]
        rfl
      go_wp2
      go_ret
      exact ⟨rfl, HI.out.1⟩

set_option maxRecDepth 100000 in
set_option maxHeartbeats 4000000 in
theorem rOvers_any (L : Lay) (P : Where) (w : World) (hL : LayAt w P L) (hR : rightL L = true) :
    Calls Tryz.prog 61 #[L.val P] w fun e w' => e = .returned (.int .i64 (idxOf' (fun x => !overOk L x) L.exits)) ∧ Below w.heap.size w w' := by
  have HX := Lib.hid (⟨fun n x => idx_hit (p := fun x => !overOk L x) (xs := L.exits) (n := n) (x := x), idx_miss (p := fun x => !overOk L x) (xs := L.exits)⟩ : _ ∧ _)
  generalize idxOf' (fun x => !overOk L x) L.exits = r at HX
  have m2 : L.exits.length ≤ 9223372036854775807 := Nat.le_trans hL.l2.1 hL.l2.2
  have hcall := fun W (hb : Below w.heap.size w W) (n : Nat) => rOver_any L P (n : Nat) W (hL.below hb)
  obtain ⟨a0, a1, a2, a3, p0, p1, p2, p3⟩ := P
  unfold Lay.val at hcall ⊢
  have HC := Lib.hid hcall
  have HRT := Lib.hid hR
  clear hcall hL hR
  go_enter Tryz.func61, Tryz.ntmps61
  go_wp2_with fail
  obtain ⟨X, hX⟩ : ∃ X, X = w.alloc (.cells #[.slice a0 L.secs.length p0, .slice a1 L.sigs.length p1, .slice a2 L.exits.length p2, .slice a3 L.flanks.length p3, .int .i64 L.t0, .int .i64 L.t1, .int .i64 L.t2, .int .i64 L.t3, .int .i64 L.t4, .int .i64 L.t5, .int .i64 L.t6] 29) := ⟨_, rfl⟩
  have hBX : Below w.heap.size w X := by rw [hX]; exact bself
  have hBL : BoxL X w.heap.size L ⟨a0, a1, a2, a3, p0, p1, p2, p3⟩ := by rw [hX]; exact BoxL.make (L := L) (p := ⟨a0, a1, a2, a3, p0, p1, p2, p3⟩) _ rfl
  rw [← hX]
  have HB := Lib.hid (⟨hBX, hBL⟩ : _ ∧ _)
  clear hX hBX hBL
  go_loopw [3] (fun c wr => ∃ n : Nat, n ≤ L.exits.length ∧ c = .int .i64 n ∧ Hid (Below X.heap.size X wr) ∧ Hid (∀ j, j < n → ∀ y, L.exits[j]? = some y → (!overOk L y) = false)) (fun c _ => L.exits.length - (intOf c).toNat)
  case atStart => exact ⟨0, Nat.zero_le _, rfl, Lib.hid (Below.refl _ _), Lib.hid (fun j hj => absurd hj (Nat.not_lt_zero _))⟩
  case round =>
    obtain ⟨n, hn, rfl, HW, HJ⟩ := hrel
    have hbx := HB.out.2.below HW.out
    obtain ⟨c0, c1, c2, c3, c4, c5, c6, c7, c8, c9, c10⟩ := hbx.cells
    have lg := hbx.1
    dsimp only at c0 c1 c2 c3
    clear hbx
    by_cases hlt : n < L.exits.length
    · obtain ⟨x, hx⟩ : ∃ x, L.exits[n]? = some x := ⟨_, List.getElem?_eq_getElem hlt⟩
      have hc := HC.out _ (bchain HB.out.1 HW.out) n
      have e : overX L (n : Nat) = overOk L x := by
        unfold overX
        rw [HRT.out, Bool.true_and, if_pos (by omega), Int.toNat_natCast, hx]
      rw [e] at hc
      obtain ⟨q, hq⟩ : ∃ q, q = overOk L x := ⟨_, rfl⟩
      rw [← hq] at hc
      have HCC := Lib.hid hc
      have HQ := Lib.hid (⟨hx, hq⟩ : _ ∧ _)
      clear hc hx hq e
      go_wp2_with fail
      (with_reducible refine HCC.out.mono ?_)
      rintro e w1 ⟨rfl, b1⟩
      have HB1 := Lib.hid (bchain HW.out b1)
      clear b1 c0 c1 c2 c3 c4 c5 c6 c7 c8 c9 c10 lg HCC
      cases q with
      | false =>
        go_wp2
        go_ret
        obtain rfl := HX.out.1 n x HQ.out.1 (by rw [← HQ.out.2]; rfl) HJ.out
        exact ⟨rfl, bchain HB.out.1 HB1.out⟩
      | true =>
        go_wp2
        go_roundw
        case rel =>
          refine ⟨n + 1, by omega, by go_num, HB1, Lib.hid (fun j hj z hz => ?_)⟩
          by_cases e : j = n
          · subst e
            rw [HQ.out.1] at hz
            cases hz
            rw [← HQ.out.2]
            rfl
          · exact HJ.out j (by omega) z hz
        case measure => simp [intOf]; omega
    · obtain rfl : n = L.exits.length := by omega
      go_wp2
      go_ret
      obtain rfl := HX.out.2 HJ.out
      exact ⟨rfl, bchain HB.out.1 HW.out⟩
end Go.Proofs.YtpcojaoeahdgcaaGreatDoor

/-
  lockbarref09.Check, Right.
-/
namespace Go.Proofs.YtpcojaoeahdgcaaGreatDoor
open Go.RowKit Go.Shelf

/-- A variable that the region has made, with what it holds. -/
def IsNew (U : World) (cs : Array Value) (v : Value) (w : World) : Prop := ∃ b, v = .pointer (some ⟨b, 0, none⟩) ∧ U.heap.size ≤ b ∧ b < w.heap.size ∧ (∀ i, w.cell? ⟨b, i, none⟩ = cs[i]?) ∧ ∀ i, w.frozen? ⟨b, i, none⟩ = false
theorem IsNew.step {U W W' : World} {cs : Array Value} {v : Value} (h : IsNew U cs v W) (k : StB W W') : IsNew U cs v W' := by
  obtain ⟨b, e, hb, hl, hc, hf⟩ := h
  exact ⟨b, e, hb, Nat.lt_of_lt_of_le hl k.size, fun i => (k.cell (p := ⟨b, i, none⟩) hl).trans (hc i), fun i => (k.frozen (p := ⟨b, i, none⟩) hl).trans (hf i)⟩
theorem rel_new {P : Program} {U W : World} {r : Result Next} {cs : Array Value} {T : TypeId} (h : r = .ok (.value (.pointer (some ⟨W.heap.size, 0, none⟩))) (W.alloc (.cells cs T))) (hC : ClB U W) : relUpon P (ClB U) StB W (IsNew U cs) r := by
  rw [h]
  have hb : Below W.heap.size W (W.alloc (.cells cs T)) := bself
  exact ⟨hC.step hb, hb, _, rfl, hC.size, by simp, fun i => by rw [World.cell?_alloc_at _ _ _ _ rfl], fun i => by simp [go_sem]⟩

set_option maxRecDepth 100000 in
set_option maxHeartbeats 16000000 in
theorem rCheck_any (L : Lay) (P : Where) (w : World) (hL : LayAt w P L) :
    Calls Tryz.prog 47 #[L.val P] w fun e w' => e = .returned (.tuple #[.int .i64 (checkL L).1, .int .i64 (checkL L).2.1, .int .i64 (checkL L).2.2]) ∧ Below w.heap.size w w' := by
  obtain ⟨cr, hcr⟩ : ∃ cr, cr = checkL L := ⟨_, rfl⟩
  obtain ⟨q, hq⟩ : ∃ q, q = rightL L := ⟨_, rfl⟩
  obtain ⟨q1, hq1⟩ : ∃ q, q = joinedL L := ⟨_, rfl⟩
  have hrt := fun W (hb : Below w.heap.size w W) => rRight_any L P W (hL.below hb)
  have hjn := fun W (hb : Below w.heap.size w W) => rJoined_any L P W (hL.below hb)
  have hs0 := fun W (hb : Below w.heap.size w W) => rsignals_any L P W (hL.below hb)
  have hs1 := fun W (hb : Below w.heap.size w W) => rexits_any L P W (hL.below hb)
  have hs2 := fun (hR : q = true) W (hb : Below w.heap.size w W) => rOvers_any L P W (hL.below hb) (hq ▸ hR)
  have hs3 := fun W (hb : Below w.heap.size w W) => rflanks_any L P W (hL.below hb)
  have h90 : q = true → q1 = false → checkL L = (1, 0, 90) := fun h h1 => by
    have e0 : ruleN L 0 = 0 := by unfold ruleN; rw [← hq1, h1]; rfl
    have := check_hit (L := L) (hq ▸ h) (n := 0) (by omega) (fun j hj => absurd hj (Nat.not_lt_zero _)) (by omega)
    rw [this, e0]
    rfl
  have hn0 : q1 = true → ruleN L 0 < 0 := fun h => by
    have e0 : ruleN L 0 = -1 := by unfold ruleN; rw [← hq1, h]; rfl
    omega
  obtain ⟨v0, hv0⟩ : ∃ v, v = ruleN L 1 := ⟨_, rfl⟩
  obtain ⟨v1, hv1⟩ : ∃ v, v = ruleN L 2 := ⟨_, rfl⟩
  obtain ⟨v2, hv2⟩ : ∃ v, v = ruleN L 3 := ⟨_, rfl⟩
  obtain ⟨v3, hv3⟩ : ∃ v, v = ruleN L 4 := ⟨_, rfl⟩
  rw [← hcr]
  rw [← hq] at hrt
  rw [← hq1] at hjn
  rw [show firstDup (sigP L) L.sigs.length = v0 from hv0.symm] at hs0
  rw [show firstDup (exQ L) L.exits.length = v1 from hv1.symm] at hs1
  rw [show idxOf' (fun x => !overOk L x) L.exits = v2 from hv2.symm] at hs2
  rw [show firstDup (flQ L) L.flanks.length = v3 from hv3.symm] at hs3
  obtain ⟨a0, a1, a2, a3, p0, p1, p2, p3⟩ := P
  unfold Lay.val at hrt hjn hs0 hs1 hs2 hs3 ⊢
  have HRT := Lib.hid (⟨hrt, hjn⟩ : _ ∧ _)
  have HSS := Lib.hid (⟨hs0, hs1, hs2, hs3⟩ : _ ∧ _ ∧ _ ∧ _)
  have HQ := Lib.hid (⟨hq, hq1, hcr, h90, hn0⟩ : _ ∧ _ ∧ _ ∧ _ ∧ _)
  have HV := Lib.hid (⟨hv0, hv1, hv2, hv3⟩ : _ ∧ _ ∧ _ ∧ _)
  clear hrt hjn hs0 hs1 hs2 hs3 hq hq1 hcr h90 hn0 hv0 hv1 hv2 hv3 hL
  go_enter Tryz.func47, Tryz.ntmps47
  go_wp2_with fail
  (with_reducible refine (HRT.out.1 (w.alloc (.cells #[.slice a0 L.secs.length p0, .slice a1 L.sigs.length p1, .slice a2 L.exits.length p2, .slice a3 L.flanks.length p3, .int .i64 L.t0, .int .i64 L.t1, .int .i64 L.t2, .int .i64 L.t3, .int .i64 L.t4, .int .i64 L.t5, .int .i64 L.t6] 29)) bself).mono ?_)
  rintro e w1 ⟨rfl, b1⟩
  have HB1 := Lib.hid (bnew b1)
  cases q with
  | false =>
    clear b1
    obtain rfl : cr = (0, 0, 60) := HQ.out.2.2.1.trans (check_no HQ.out.1.symm)
    go_wp2
    go_ret3
    exact ⟨rfl, HB1.out⟩
  | true =>
    have hbx : BoxL w1 w.heap.size L ⟨a0, a1, a2, a3, p0, p1, p2, p3⟩ := (BoxL.make (L := L) (p := ⟨a0, a1, a2, a3, p0, p1, p2, p3⟩) _ rfl).below b1
    have HBX1 := Lib.hid hbx
    obtain ⟨c0, c1, c2, c3, c4, c5, c6, c7, c8, c9, c10⟩ := hbx.cells
    have lg := hbx.1
    dsimp only at c0 c1 c2 c3
    clear b1 hbx
    go_wp2_with fail
    (with_reducible refine (HRT.out.2 _ HB1.out).mono ?_)
    rintro e X ⟨rfl, b2⟩
    have HG := Lib.hid (⟨bchain HB1.out b2, HBX1.out.below b2⟩ : _ ∧ _)
    clear c0 c1 c2 c3 c4 c5 c6 c7 c8 c9 c10 lg b2
    cases q1 with
    | false =>
      obtain rfl : cr = (1, 0, 90) := HQ.out.2.2.1.trans (HQ.out.2.2.2.1 (by trivial) (by trivial))
      go_wp2
      go_ret3
      exact ⟨rfl, HG.out.1⟩
    | true =>
      have HBX := Lib.hid HG.out.2
      have HS0 := Lib.hid (fun V (h : ClB X V) => HSS.out.1 V (bchain HG.out.1 h))
      have HS1 := Lib.hid (fun V (h : ClB X V) => HSS.out.2.1 V (bchain HG.out.1 h))
      have HS2 := Lib.hid (fun V (h : ClB X V) => HSS.out.2.2.1 (by trivial) V (bchain HG.out.1 h))
      have HS3 := Lib.hid (fun V (h : ClB X V) => HSS.out.2.2.2 V (bchain HG.out.1 h))
      have hn0 := HQ.out.2.2.2.2 (by trivial)
      have HN0 := Lib.hid hn0
      clear hn0
      go_wp2_with fail
      refine (wpIn_wide (n := 5)).1 (wpIn_region_rel_head (.inl rfl) 10 [([(1, none)], none), ([(13, some 0)], none), ([(1, none)], none), ([(15, some 0)], none), ([(1, none)], none), ([(17, some 0)], none), ([(1, none)], none), ([(19, some 0)], none), ([(14, some 6), (16, some 4), (18, some 2), (20, some 0)], none), ([], none)] [(0, 5), (1, 21)] (by kernel_rfl) (by kernel_rfl) (by kernel_rfl) (by kernel_rfl) (by kernel_rfl) (by kernel_rfl) (by kernel_rfl) (by kernel_rfl) ?_)
      simp only [List.take_succ_cons, List.take_zero, List.drop_succ_cons, List.drop_zero]
      refine ob_det (c := .agg #[.slice a0 L.secs.length p0, .slice a1 L.sigs.length p1, .slice a2 L.exits.length p2, .slice a3 L.flanks.length p3, .int .i64 L.t0, .int .i64 L.t1, .int .i64 L.t2, .int .i64 L.t3, .int .i64 L.t4, .int .i64 L.t5, .int .i64 L.t6]) ?_ ?_
      · intro ρ W hk hC
        simp only [seen, obOp]
        rintro h1
        replace h1 : ρ (.tmp 1) = .pointer (some ⟨w.heap.size, 0, none⟩) := h1.trans rfl
        exact rel_value (runLoad h1 (HBX.out.below hC)) hC
      refine ob_det (c := .int .i64 v0) ?_ ?_
      · intro ρ W hk hC
        simp only [seen, obOp, List.getD_cons_zero]
        rintro h13
        exact rel_call (f := 59) (args := #[.agg #[.slice a0 L.secs.length p0, .slice a1 L.sigs.length p1, .slice a2 L.exits.length p2, .slice a3 L.flanks.length p3, .int .i64 L.t0, .int .i64 L.t1, .int .i64 L.t2, .int .i64 L.t3, .int .i64 L.t4, .int .i64 L.t5, .int .i64 L.t6]]) (by simp [go_sem, h13, hk.func]) hC (HS0.out W hC)
      refine ob_det (c := .agg #[.slice a0 L.secs.length p0, .slice a1 L.sigs.length p1, .slice a2 L.exits.length p2, .slice a3 L.flanks.length p3, .int .i64 L.t0, .int .i64 L.t1, .int .i64 L.t2, .int .i64 L.t3, .int .i64 L.t4, .int .i64 L.t5, .int .i64 L.t6]) ?_ ?_
      · intro ρ W hk hC
        simp only [seen, obOp]
        rintro h1
        replace h1 : ρ (.tmp 1) = .pointer (some ⟨w.heap.size, 0, none⟩) := h1.trans rfl
        exact rel_value (runLoad h1 (HBX.out.below hC)) hC
      refine ob_det (c := .int .i64 v1) ?_ ?_
      · intro ρ W hk hC
        simp only [seen, obOp, List.getD_cons_zero]
        rintro h15
        exact rel_call (f := 60) (args := #[.agg #[.slice a0 L.secs.length p0, .slice a1 L.sigs.length p1, .slice a2 L.exits.length p2, .slice a3 L.flanks.length p3, .int .i64 L.t0, .int .i64 L.t1, .int .i64 L.t2, .int .i64 L.t3, .int .i64 L.t4, .int .i64 L.t5, .int .i64 L.t6]]) (by simp [go_sem, h15, hk.func]) hC (HS1.out W hC)
      refine ob_det (c := .agg #[.slice a0 L.secs.length p0, .slice a1 L.sigs.length p1, .slice a2 L.exits.length p2, .slice a3 L.flanks.length p3, .int .i64 L.t0, .int .i64 L.t1, .int .i64 L.t2, .int .i64 L.t3, .int .i64 L.t4, .int .i64 L.t5, .int .i64 L.t6]) ?_ ?_
      · intro ρ W hk hC
        simp only [seen, obOp]
        rintro h1
        replace h1 : ρ (.tmp 1) = .pointer (some ⟨w.heap.size, 0, none⟩) := h1.trans rfl
        exact rel_value (runLoad h1 (HBX.out.below hC)) hC
      refine ob_det (c := .int .i64 v2) ?_ ?_
      · intro ρ W hk hC
        simp only [seen, obOp, List.getD_cons_zero]
        rintro h17
        exact rel_call (f := 61) (args := #[.agg #[.slice a0 L.secs.length p0, .slice a1 L.sigs.length p1, .slice a2 L.exits.length p2, .slice a3 L.flanks.length p3, .int .i64 L.t0, .int .i64 L.t1, .int .i64 L.t2, .int .i64 L.t3, .int .i64 L.t4, .int .i64 L.t5, .int .i64 L.t6]]) (by simp [go_sem, h17, hk.func]) hC (HS2.out W hC)
      refine ob_det (c := .agg #[.slice a0 L.secs.length p0, .slice a1 L.sigs.length p1, .slice a2 L.exits.length p2, .slice a3 L.flanks.length p3, .int .i64 L.t0, .int .i64 L.t1, .int .i64 L.t2, .int .i64 L.t3, .int .i64 L.t4, .int .i64 L.t5, .int .i64 L.t6]) ?_ ?_
      · intro ρ W hk hC
        simp only [seen, obOp]
        rintro h1
        replace h1 : ρ (.tmp 1) = .pointer (some ⟨w.heap.size, 0, none⟩) := h1.trans rfl
        exact rel_value (runLoad h1 (HBX.out.below hC)) hC
      refine ob_det (c := .int .i64 v3) ?_ ?_
      · intro ρ W hk hC
        simp only [seen, obOp, List.getD_cons_zero]
        rintro h19
        exact rel_call (f := 62) (args := #[.agg #[.slice a0 L.secs.length p0, .slice a1 L.sigs.length p1, .slice a2 L.exits.length p2, .slice a3 L.flanks.length p3, .int .i64 L.t0, .int .i64 L.t1, .int .i64 L.t2, .int .i64 L.t3, .int .i64 L.t4, .int .i64 L.t5, .int .i64 L.t6]]) (by simp [go_sem, h19, hk.func]) hC (HS3.out W hC)
      refine ob_det (c := .agg #[.int .i64 v0, .int .i64 v1, .int .i64 v2, .int .i64 v3]) ?_ ?_
      · intro ρ W hk hC
        simp only [seen, obOp, List.getD_cons_zero, List.getD_cons_succ]
        rintro h14 h16 h18 h20
        exact rel_value (by simp [go_sem, h14, h16, h18, h20]) hC
      refine ⟨IsNew X #[.int .i64 0, .int .i64 0, .int .i64 0, .int .i64 0], fun v w w' h k => h.step k, ?_, ?_⟩
      · intro ρ W hk hC
        simp only [seen, obOp]
        exact rel_new (cs := #[.int .i64 0, .int .i64 0, .int .i64 0, .int .i64 0]) (T := 91) (by simp [go_sem]) hC
      intro vs w5 hC5
      simp only [endSeen, List.getD_cons_zero, List.getD_cons_succ]
      intro h5 h21
      simp only [writeAll, List.setIfInBounds_toArray, List.set_cons_zero, List.set_cons_succ, h21]
      obtain ⟨b, hb, lb, lb5, cb, fb⟩ := h5
      rw [hb]
      have k0 := cb 0
      have k1 := cb 1
      have k2 := cb 2
      have k3 := cb 3
      simp only [List.getElem?_toArray, List.getElem?_cons_zero, List.getElem?_cons_succ] at k0 k1 k2 k3
      have f0 := fb 0
      have f1 := fb 1
      have f2 := fb 2
      have f3 := fb 3
      have HC5 := Lib.hid (⟨hC5, lb⟩ : _ ∧ _)
      clear cb fb hC5 lb hb
      gi_wp2
      go_wp2_with fail
      have hY : Below w.heap.size w ((((w5.setCell ⟨b, 0, none⟩ (.int .i64 v0)).setCell ⟨b, 1, none⟩ (.int .i64 v1)).setCell ⟨b, 2, none⟩ (.int .i64 v2)).setCell ⟨b, 3, none⟩ (.int .i64 v3)) := ((((bchain HG.out.1 HC5.out.1).setCell (p := ⟨b, 0, none⟩) (by have := HG.out.1.size; have := HC5.out.2; dsimp only; omega) _).setCell (p := ⟨b, 1, none⟩) (by have := HG.out.1.size; have := HC5.out.2; dsimp only; omega) _).setCell (p := ⟨b, 2, none⟩) (by have := HG.out.1.size; have := HC5.out.2; dsimp only; omega) _).setCell (p := ⟨b, 3, none⟩) (by have := HG.out.1.size; have := HC5.out.2; dsimp only; omega) _
      have y0 : ((((w5.setCell ⟨b, 0, none⟩ (.int .i64 v0)).setCell ⟨b, 1, none⟩ (.int .i64 v1)).setCell ⟨b, 2, none⟩ (.int .i64 v2)).setCell ⟨b, 3, none⟩ (.int .i64 v3)).cell? ⟨b, 0, none⟩ = some (.int .i64 v0) := by simp [go_sem, k0]
      have y1 : ((((w5.setCell ⟨b, 0, none⟩ (.int .i64 v0)).setCell ⟨b, 1, none⟩ (.int .i64 v1)).setCell ⟨b, 2, none⟩ (.int .i64 v2)).setCell ⟨b, 3, none⟩ (.int .i64 v3)).cell? ⟨b, 1, none⟩ = some (.int .i64 v1) := by simp [go_sem, k1]
      have y2 : ((((w5.setCell ⟨b, 0, none⟩ (.int .i64 v0)).setCell ⟨b, 1, none⟩ (.int .i64 v1)).setCell ⟨b, 2, none⟩ (.int .i64 v2)).setCell ⟨b, 3, none⟩ (.int .i64 v3)).cell? ⟨b, 2, none⟩ = some (.int .i64 v2) := by simp [go_sem, k2]
      have y3 : ((((w5.setCell ⟨b, 0, none⟩ (.int .i64 v0)).setCell ⟨b, 1, none⟩ (.int .i64 v1)).setCell ⟨b, 2, none⟩ (.int .i64 v2)).setCell ⟨b, 3, none⟩ (.int .i64 v3)).cell? ⟨b, 3, none⟩ = some (.int .i64 v3) := by simp [go_sem, k3]
      have lY : b < ((((w5.setCell ⟨b, 0, none⟩ (.int .i64 v0)).setCell ⟨b, 1, none⟩ (.int .i64 v1)).setCell ⟨b, 2, none⟩ (.int .i64 v2)).setCell ⟨b, 3, none⟩ (.int .i64 v3)).heap.size := by simpa [World.setCell] using lb5
      generalize ((((w5.setCell ⟨b, 0, none⟩ (.int .i64 v0)).setCell ⟨b, 1, none⟩ (.int .i64 v1)).setCell ⟨b, 2, none⟩ (.int .i64 v2)).setCell ⟨b, 3, none⟩ (.int .i64 v3)) = Y at hY y0 y1 y2 y3 lY ⊢
      have HY := Lib.hid (⟨hY, y0, y1, y2, y3⟩ : _ ∧ _ ∧ _ ∧ _ ∧ _)
      clear hY y0 y1 y2 y3 k0 k1 k2 k3 f0 f1 f2 f3 HC5 lb5
      go_loopw [6] (fun c wr => ∃ n : Nat, n ≤ 4 ∧ c = .int .i64 n ∧ Hid (Below Y.heap.size Y wr) ∧ Hid (∀ j, j < n + 1 → ruleN L j < 0)) (fun c _ => 4 - (intOf c).toNat)
      case atStart => exact ⟨0, by omega, rfl, Lib.hid (Below.refl _ _), Lib.hid (fun j hj => by
        obtain rfl : j = 0 := by omega
        exact HN0.out)⟩
      case round =>
        obtain ⟨n, hn, rfl, HBr, HJ⟩ := hrel
        have HBW := Lib.hid (bchain HY.out.1 HBr.out)
        have lb : b < wr.heap.size := Nat.lt_of_lt_of_le lY HBr.out.size
        by_cases hn4 : n = 4
        · subst hn4
          obtain rfl : cr = (0, 0, 0) := HQ.out.2.2.1.trans (check_none HQ.out.1.symm HJ.out)
          go_wp2
          go_ret3
          exact ⟨rfl, HBW.out⟩
        have hlt : n < 4 := by omega
        obtain ⟨v, hv⟩ : ∃ v, v = ruleN L (n + 1) := ⟨_, rfl⟩
        have hch := fun hh : 0 ≤ ruleN L (n + 1) => HQ.out.2.2.1.trans (check_hit HQ.out.1.symm (show n + 1 < 5 by omega) HJ.out hh)
        rw [← hv] at hch
        have cv : wr.cell? ⟨b, n, none⟩ = some (.int .i64 v) := by
          rw [hv]
          obtain rfl | rfl | rfl | rfl : n = 0 ∨ n = 1 ∨ n = 2 ∨ n = 3 := by omega
          · exact ((HBr.out.cell (p := ⟨b, 0, none⟩) lY).trans HY.out.2.1).trans (by rw [HV.out.1])
          · exact ((HBr.out.cell (p := ⟨b, 1, none⟩) lY).trans HY.out.2.2.1).trans (by rw [HV.out.2.1])
          · exact ((HBr.out.cell (p := ⟨b, 2, none⟩) lY).trans HY.out.2.2.2.1).trans (by rw [HV.out.2.2.1])
          · exact ((HBr.out.cell (p := ⟨b, 3, none⟩) lY).trans HY.out.2.2.2.2).trans (by rw [HV.out.2.2.2])
        have HCH := Lib.hid (⟨hch, hv⟩ : _ ∧ _)
        have hn0 : (0 : Int) ≤ (n : Int) := by omega
        have hn44 : (n : Int) < 4 := by omega
        clear hch hv hn4
        by_cases h0 : 0 ≤ v
        · have d0 : decide (0 ≤ v) = true := decide_eq_true h0
          have HE := Lib.hid (HCH.out.1 h0)
          clear h0
          go_wp2_with fail
          refine wp_region_ext (by kernel_rfl) (by kernel_rfl) fun hxx => ?_
          repeat (go_big_quiet_step (fail))
          refine wpQuiet_nil ?_
          intro w7 b7
          have HB7 := Lib.hid (bchain HBW.out b7)
          clear b7 hxx
          go_wp2
          go_ret3
          obtain rfl := HE.out
          exact ⟨by simp; omega, HB7.out⟩
        · have d0 : decide (0 ≤ v) = false := decide_eq_false h0
          have HE := Lib.hid h0
          clear h0
          go_wp2
          go_roundw
          case rel => exact ⟨n + 1, by omega, by go_num, HBr, Lib.hid (fun j hj => by
            by_cases e : j = n + 1
            · subst e; have := HE.out; rw [HCH.out.2] at this; omega
            · exact HJ.out j (by omega))⟩
          case measure => simp [intOf]; omega

set_option maxRecDepth 100000 in
set_option maxHeartbeats 4000000 in
theorem rTopoRight_any (L : Lay) (P : Where) (w : World) (hL : LayAt w P L) :
    Calls Tryz.prog 28 #[L.val P] w fun e w' => e = .returned (.bool (topoR L)) ∧ Below w.heap.size w w' := by
  have hc := fun W (hb : Below w.heap.size w W) => rCheck_any L P W (hL.below hb)
  unfold topoR
  generalize checkL L = cr at hc ⊢
  obtain ⟨x0, x1, x2⟩ := cr
  dsimp only at hc ⊢
  obtain ⟨a0, a1, a2, a3, p0, p1, p2, p3⟩ := P
  unfold Lay.val at hc ⊢
  have HC := Lib.hid hc
  clear hc hL
  go_enter Tryz.func28, Tryz.ntmps28
  go_wp2_with fail
  (with_reducible refine (HC.out (w.alloc (.cells #[.slice a0 L.secs.length p0, .slice a1 L.sigs.length p1, .slice a2 L.exits.length p2, .slice a3 L.flanks.length p3, .int .i64 L.t0, .int .i64 L.t1, .int .i64 L.t2, .int .i64 L.t3, .int .i64 L.t4, .int .i64 L.t5, .int .i64 L.t6] 29)) bself).mono ?_)
  rintro e w1 ⟨rfl, b1⟩
  have HB1 := Lib.hid (bnew b1)
  clear b1
  go_wp2
  go_ret
  exact ⟨by first | rfl | (apply ret_bool; simp), HB1.out⟩
end Go.Proofs.YtpcojaoeahdgcaaGreatDoor

/-
  A layout that hangs together, with one signal, exit, flank more that is there already: the rule that is broken. And: an append onto a new empty slice in a drawn region, told by relations.
-/
namespace Go.Proofs.YtpcojaoeahdgcaaGreatDoor
open Go.RowKit Go.Shelf

theorem once_sigs {L : Lay} (h : topoR L = true) {j : Nat} {x : Prt} (hx : L.sigs[j]? = some x) (hn : L.sigs.length < 12) : checkL (swap L (L.sigs ++ [x]) L.exits L.flanks) = (2, (L.sigs.length : Int), 90) := by
  obtain ⟨hr, ha⟩ := (topoR_iff L).1 h
  obtain ⟨⟨_, _, l2, l3⟩, _, _, hf, _⟩ := (right_iff L).1 hr
  have hR : rightL (swap L (L.sigs ++ [x]) L.exits L.flanks) = true := right_swap hr (fun y hy => by
    rcases List.mem_append.1 hy with hy | hy
    · exact hy
    · rw [List.mem_singleton.1 hy]; exact List.mem_of_getElem? hx) (fun _ hy => hy) hf (by simp; omega) l2 l3
  have hj : j < L.sigs.length := (List.getElem?_eq_some_iff.1 hx).1
  have h1 : ruleN (swap L (L.sigs ++ [x]) L.exits L.flanks) 1 = (L.sigs.length : Int) := by
    show firstDup (sigP (swap L (L.sigs ++ [x]) L.exits L.flanks)) (L.sigs ++ [x]).length = _
    refine firstDup_at (by simp) (fun k hk => dupAt_false.2 fun i hi => ?_) (dupAt_hit hj ?_)
    · have := (rule1_neg L).1 (ha 1 (by omega)) k hk i hi
      unfold sigP at this ⊢
      simpa [swap, List.getElem?_append_left hk, List.getElem?_append_left (Nat.lt_trans hi hk)] using this
    · unfold sigP
      simp only [swap, List.getElem?_append_left hj, hx]
      simp
  have := check_hit hR (n := 1) (by omega) (fun j hj => by
    obtain rfl : j = 0 := by omega
    rw [rule0_neg, joined_swap]
    exact (rule0_neg L).1 (ha 0 (by omega))) (by rw [h1]; omega)
  rw [this, h1]
  rfl
theorem once_exits {L : Lay} (h : topoR L = true) {j : Nat} {x : Ext'} (hx : L.exits[j]? = some x) (hn : L.exits.length < 12) : checkL (swap L L.sigs (L.exits ++ [x]) L.flanks) = (3, (L.exits.length : Int), 90) := by
  obtain ⟨hr, ha⟩ := (topoR_iff L).1 h
  obtain ⟨⟨_, l1, _, l3⟩, _, _, hf, _⟩ := (right_iff L).1 hr
  have hR : rightL (swap L L.sigs (L.exits ++ [x]) L.flanks) = true := right_swap hr (fun _ hy => hy) (fun y hy => by
    rcases List.mem_append.1 hy with hy | hy
    · exact hy
    · rw [List.mem_singleton.1 hy]; exact List.mem_of_getElem? hx) hf l1 (by simp; omega) l3
  have hj : j < L.exits.length := (List.getElem?_eq_some_iff.1 hx).1
  have h1 : ruleN (swap L L.sigs (L.exits ++ [x]) L.flanks) 2 = (L.exits.length : Int) := by
    show firstDup (exQ (swap L L.sigs (L.exits ++ [x]) L.flanks)) (L.exits ++ [x]).length = _
    refine firstDup_at (by simp) (fun k hk => dupAt_false.2 fun i hi => ?_) (dupAt_hit hj ?_)
    · have := (rule2_neg L).1 (ha 2 (by omega)) k hk i hi
      unfold exQ at this ⊢
      simpa [swap, List.getElem?_append_left hk, List.getElem?_append_left (Nat.lt_trans hi hk)] using this
    · unfold exQ
      simp only [swap, List.getElem?_append_left hj, hx]
      simp
  have := check_hit hR (n := 2) (by omega) (fun j hj => by
    obtain rfl | rfl : j = 0 ∨ j = 1 := by omega
    · rw [rule0_neg, joined_swap]; exact (rule0_neg L).1 (ha 0 (by omega))
    · exact ha 1 (by omega)) (by rw [h1]; omega)
  rw [this, h1]
  rfl
def turnF (x : Flk) : Flk := ⟨x.s, x.way, x.pt, 1 - x.pos⟩
theorem once_flanks {L : Lay} (h : topoR L = true) {j : Nat} {x : Flk} (hx : L.flanks[j]? = some x) (hn : L.flanks.length < 16) : checkL (swap L L.sigs L.exits (L.flanks ++ [turnF x])) = (5, (L.flanks.length : Int), 90) := by
  obtain ⟨hr, ha⟩ := (topoR_iff L).1 h
  obtain ⟨⟨_, l1, l2, _⟩, _, _, hf, _⟩ := (right_iff L).1 hr
  have hR : rightL (swap L L.sigs L.exits (L.flanks ++ [turnF x])) = true := right_swap hr (fun _ hy => hy) (fun _ hy => hy) (fun y hy => by
    rcases List.mem_append.1 hy with hy | hy
    · exact hf y hy
    · rw [List.mem_singleton.1 hy]
      have hxx := of_decide_eq_true (hf x (List.mem_of_getElem? hx))
      unfold flankT
      refine decide_eq_true ?_
      obtain ⟨h1, h2, h3, h4, h5, h6⟩ := hxx
      exact ⟨h1, h2, h3, by show 0 ≤ 1 - x.pos; omega, by show 1 - x.pos ≤ 1; omega, h6⟩) l1 l2 (by simp; omega)
  have hj : j < L.flanks.length := (List.getElem?_eq_some_iff.1 hx).1
  have h1 : ruleN (swap L L.sigs L.exits (L.flanks ++ [turnF x])) 4 = (L.flanks.length : Int) := by
    show firstDup (flQ (swap L L.sigs L.exits (L.flanks ++ [turnF x]))) (L.flanks ++ [turnF x]).length = _
    refine firstDup_at (by simp) (fun k hk => dupAt_false.2 fun i hi => ?_) (dupAt_hit hj ?_)
    · have := (rule4_neg L).1 (ha 4 (by omega)) k hk i hi
      unfold flQ at this ⊢
      simpa [swap, List.getElem?_append_left hk, List.getElem?_append_left (Nat.lt_trans hi hk)] using this
    · unfold flQ
      simp only [swap, List.getElem?_append_left hj, hx]
      simp [bareF, turnF]
  have := check_hit hR (n := 4) (by omega) (fun j hj => by
    obtain rfl | rfl | rfl | rfl : j = 0 ∨ j = 1 ∨ j = 2 ∨ j = 3 := by omega
    · rw [rule0_neg, joined_swap]; exact (rule0_neg L).1 (ha 0 (by omega))
    · exact ha 1 (by omega)
    · exact ha 2 (by omega)
    · rw [rule3_neg]
      intro y hy
      rw [overOk_swap]
      exact (rule3_neg L).1 (ha 3 (by omega)) y hy) (by rw [h1]; omega)
  rw [this, h1]
  rfl

theorem owns_below {W W' : World} {base : Nat} {e : TypeId} {size : Nat} {v : Value} {n : Nat} {xs : List Value} (h : W.ownsRow base e size v n xs) (k : Below W.heap.size W W') : W'.ownsRow base e size v n xs := by
  refine ⟨h.1, ?_⟩
  rcases h.2 with hn | ⟨g, cap, cur, e, hb, hgg, rest⟩
  · exact .inl hn
  · exact .inr ⟨g, cap, cur, e, hb, (k.block g (Array.getElem?_eq_some_iff.1 hgg).1).trans hgg, rest⟩
theorem owns_base {W : World} {base base' : Nat} {e : TypeId} {size : Nat} {v : Value} {n : Nat} {xs : List Value} (h : W.ownsRow base e size v n xs) (k : base' ≤ base) : W.ownsRow base' e size v n xs := by
  refine ⟨h.1, ?_⟩
  rcases h.2 with hn | ⟨g, cap, cur, e, hb, hgg, rest⟩
  · exact .inl hn
  · exact .inr ⟨g, cap, cur, e, Nat.le_trans k hb, hgg, rest⟩
/-- A new slice of nothing. -/
def NoneS (v : Value) (_ : World) : Prop := ∃ g, v = .slice (some ⟨g, 0, none⟩) 0 0
theorem rel_none {P : Program} {U W : World} {r : Result Next} {g : Nat} {o : Obj} (h : r = .ok (.value (.slice (some ⟨g, 0, none⟩) 0 0)) (W.alloc o)) (hC : ClB U W) : relUpon P (ClB U) StB W NoneS r := by
  rw [h]
  exact ⟨hC.step bself, bself, g, rfl⟩
/-- A new slice of one element. -/
def OneS (U : World) (cs : Array Value) (v : Value) (w : World) : Prop := ∃ g, v = .slice (some ⟨g, 0, none⟩) 1 1 ∧ U.heap.size ≤ g ∧ g < w.heap.size ∧ ∀ i, w.cell? ⟨g, i, none⟩ = cs[i]?
theorem OneS.step {U W W' : World} {cs : Array Value} {v : Value} (h : OneS U cs v W) (k : StB W W') : OneS U cs v W' := by
  obtain ⟨g, e, hb, hl, hc⟩ := h
  exact ⟨g, e, hb, Nat.lt_of_lt_of_le hl k.size, fun i => (k.cell (p := ⟨g, i, none⟩) hl).trans (hc i)⟩
theorem rel_one {P : Program} {U W : World} {r : Result Next} {cs : Array Value} {T : TypeId} (h : r = .ok (.value (.slice (some ⟨W.heap.size, 0, none⟩) 1 1)) (W.alloc (.cells cs T))) (hC : ClB U W) : relUpon P (ClB U) StB W (OneS U cs) r := by
  rw [h]
  exact ⟨hC.step bself, bself, _, rfl, hC.size, by simp, fun i => by rw [World.cell?_alloc_at _ _ _ _ rfl]⟩
/-- What is appended to a new slice of nothing lies in a row of its own. -/
theorem rel_append {P : Program} {U W : World} {ρ : Operand → Value} {dst : Option Tmp} {ty : TypeId} {pos : String} {after : Array Edge} {guard : Option (Nat × Bool)} {s x : Nat} {t e : TypeId} {i : TypeInfo} {z : Value} {size bytes : Nat}
    (h1 : P.underlying t = some (.slice e)) (h2 : P.info? e = some i) (h3 : i.zero = some z) (h4 : i.size = size) (h5 : i.bytes = bytes) (h6 : z.cells.size = size) (h7 : 0 < size)
    {g : Nat} (hs : ρ (.tmp s) = .slice (some ⟨g, 0, none⟩) 0 0) {ad : Addr} {m c : Nat} {news : List Value} (hx : ρ (.tmp x) = .slice (some ad) m c) (hn : news.length = m * size) (hc : ∀ j u, news[j]? = some u → W.cell? (ad.add j) = some u)
    (hm : 0 < m) (b1 : m ≤ maxLen) (b2 : m * bytes ≤ 140737488355328) (hC : ClB U W) :
    relUpon P (ClB U) StB W (fun v w' => w'.ownsRow U.heap.size e size v m news) ((execOp ρ ⟨dst, .call { callee := .builtin .append, args := #[.tmp s, .tmp x], argTypes := #[t, t] }, ty, pos, after, guard⟩).run P W) := by
  obtain ⟨v', w', hrun, r1, r2⟩ := run_append_arg_grows (P := P) (w := W) t ty e i z size bytes h1 h2 h3 h4 h5 h6 h7 ⟨g, 0, none⟩ 0 0 [] (by simp) (fun j u h => by simp at h) ad m c news hn hc (by omega) (by omega) (by simpa using b2)
  have hb : Below W.heap.size W w' := (Below.refl _ _).grown r2 (Nat.le_refl _) (fun k e => by cases e)
  have hr : (execOp ρ ⟨dst, .call { callee := .builtin .append, args := #[.tmp s, .tmp x], argTypes := #[t, t] }, ty, pos, after, guard⟩).run P W = .ok (.value v') w' := by
    simp [execOp, resolve, invoke, builtin, hs, hx, hrun, Result.andThen]
  rw [hr]
  refine ⟨hC.step hb, hb, ?_⟩
  have := owns_base r1 hC.size
  rwa [Nat.zero_add, List.nil_append] at this
end Go.Proofs.YtpcojaoeahdgcaaGreatDoor
