/-
  The walk of LayoutSteps.
-/
import Derived.Test.YtmnkgnoljllnnaaDoorM5
import Derived.Deep.RegionHeld3

namespace Go.Proofs.YtmnkgnoljllnnaaDoor
open Go.RowKit Go.Shelf

/-- A way's ends are ports of its section. -/
theorem way_ports {k i o : Int} (h : wayB k i o = true) : (0 ≤ i ∧ i < kPorts k) ∧ (0 ≤ o ∧ o < kPorts k) := by
  rw [(way_spec k i o).1] at h
  have h' := of_decide_eq_true h
  unfold hit at h'
  rcases kCases k with ⟨rfl, _⟩ | ⟨rfl, _⟩ | ⟨rfl, _⟩ | ⟨_, _, _, _, m, _⟩
  · simp [kMany, aOf, bOf, kPorts, kB0, kA1, kB1] at h' ⊢; omega
  · simp [kMany, aOf, bOf, kPorts, kB0, kA1, kB1] at h' ⊢; omega
  · simp [kMany, aOf, bOf, kPorts, kB0, kA1, kB1] at h' ⊢; omega
  · rw [m] at h'; omega
/-- What LayoutSteps asks of At and Step. -/
theorem steps_law (L : Lay) (s i o : Int) : (stepN L s o i = stepN L s i o ∧ stepB L s o i = stepB L s i o) ∧
    ((atO L s i = none ∨ atO L s o = none) → stepN L s i o = 0 ∧ stepB L s i o = false) ∧
    (∀ c, atO L s i = some c → stepN L s i o = wayN c.k i o ∧ stepB L s i o = wayB c.k i o) := by
  rcases step_cases L s i o with ⟨h, e, f⟩ | ⟨n, c, rfl, hn, hc, _, e, f⟩
  · rcases step_cases L s o i with ⟨_, e', f'⟩ | ⟨n, c, rfl, hn, hc, _⟩
    · refine ⟨⟨by rw [e, e'], by rw [f, f']⟩, fun _ => ⟨e, f⟩, fun c hc => ?_⟩
      rcases at_cases L s i with ⟨_, g⟩ | ⟨n, c, rfl, hn, _⟩
      · rw [g] at hc; cases hc
      · simp [isSec] at h; omega
    · simp [isSec] at h; omega
  · have hs : secAt L n = some c := by unfold secAt; rw [if_pos (by omega)]; simpa using hc
    refine ⟨⟨by simp only [stepN, hs]; exact (way_comm c.k o i).2, by simp only [stepB, hs]; exact (way_comm c.k o i).1⟩, fun h => ?_, fun c' hc' => ?_⟩
    · have hb : wayB c.k i o = false := by
        cases hx : wayB c.k i o with
        | false => rfl
        | true =>
          have g := way_ports hx
          exfalso
          rcases h with h | h
          · unfold atO at h; rw [hs, Option.bind_some, if_pos g.1] at h; cases h
          · unfold atO at h; rw [hs, Option.bind_some, if_pos g.2] at h; cases h
      rw [e, f]
      exact ⟨way_false hb, hb⟩
    · unfold atO at hc'
      rw [hs, Option.bind_some] at hc'
      split at hc'
      · obtain rfl := Option.some.inj hc'
        exact ⟨e, f⟩
      · cases hc'

end Go.Proofs.YtmnkgnoljllnnaaDoor

/-
  The walk of TopoOver.
-/
namespace Go.Proofs.YtmnkgnoljllnnaaDoor
open Go.RowKit Go.Shelf

/-- What lies beyond a port that is joined has it beyond. -/
theorem bey_back {L : Lay} (hj : joinedL L = true) {s q a b : Int} (hh : hasB L s q = true) (hb : beyL L s q = ⟨a, b⟩) (h0 : 0 ≤ a) : beyL L a b = ⟨s, q⟩ := by
  rcases bey_cases L s q with ⟨h, _⟩ | ⟨n, m, c, rfl, rfl, hn, hc, hm, hm4, _, _, _⟩
  · rw [hh] at h; cases h
  · have hs : secFine L n = true := by
      cases hx : secFine L n with
      | true => rfl
      | false => rw [(joinedL_facts L).2.1 n hn hx] at hj; cases hj
    rw [secFine_eq hc, Bool.and_eq_true, List.all_eq_true] at hs
    have := hs.2 m (mem_pj.2 ⟨hm4, hh⟩)
    rw [joinB_eq, hb] at this
    dsimp only at this
    have hne : decide ((⟨a, b⟩ : Prt) = endP) = false := decide_eq_false (fun h => by cases h; omega)
    rw [hne, Bool.false_or, Bool.and_eq_true, decide_eq_true_iff] at this
    exact this.2
theorem step_facts {L : Lay} {s i o : Int} (h : stepB L s i o = true) : ∃ (m : Nat) (c : Sec), s = (m : Int) ∧ m < L.secs.length ∧ L.secs[m]? = some c ∧ c ∈ L.secs ∧ wayB c.k i o = true ∧ hasB L s i = true ∧ hasB L s o = true := by
  rcases step_cases L s i o with ⟨_, _, f⟩ | ⟨m, c, rfl, hm, hc, hcm, _, f⟩
  · rw [f] at h; cases h
  · rw [f] at h
    have hs : secAt L m = some c := by unfold secAt; rw [if_pos (by omega)]; simpa using hc
    obtain ⟨g1, g2⟩ := way_ports h
    refine ⟨m, c, rfl, hm, hc, hcm, h, ?_, ?_⟩
    · unfold hasB atO; rw [hs, Option.bind_some, if_pos g1]; rfl
    · unfold hasB atO; rw [hs, Option.bind_some, if_pos g2]; rfl

set_option maxRecDepth 100000 in
set_option maxHeartbeats 16000000 in
theorem topoOver_walk (L : Lay) (P : Where) (x : Int) (w : World) (hL : LayAt w P L) (KE : Kinds w ∧ JEnd w) :
    Calls Tryd.prog 4 #[L.val P, .int .i64 x] w fun e w' => e = .returned (.bool true) ∧ Below w.heap.size w w' := by
  have hG := fun w1 (h : Below w.heap.size w w1) => rGreat_of L P w1 (hL.below h)
  have h3 := fun w1 (h : Below w.heap.size w w1) => topoRight_any L P w1 (hL.below h) (KE.1.below h) (KE.2.below h)
  have h5 := fun w1 (h : Below w.heap.size w w1) => over2_any L P x w1 (hL.below h) (KE.1.below h) (KE.2.below h)
  have hW := fun w1 (h : Below w.heap.size w w1) => wakes9_any w1 (KE.1.below h) (KE.2.below h)
  have m2 : L.exits.length ≤ 9223372036854775807 := Nat.le_trans hL.l2.1 hL.l2.2
  have m0 : L.secs.length ≤ 9223372036854775807 := Nat.le_trans hL.l0.1 hL.l0.2
  obtain ⟨qt, hqt⟩ : ∃ q, q = topoR L := ⟨_, rfl⟩
  rw [← hqt] at h3
  have HL := Lib.hid hL
  obtain ⟨a0, a1, a2, a3, p0, p1, p2, p3⟩ := P
  unfold Lay.val at hG h3 h5 ⊢
  have HG := Lib.hid hG
  have HT := Lib.hid (⟨h3, h5, hW⟩ : _ ∧ _ ∧ _)
  have HQT := Lib.hid hqt
  clear hG h3 h5 hW hqt hL KE
  go_enter Tryd.func4, Tryd.ntmps4
  go_wp2_with fail
  (with_reducible refine (HG.out (w.alloc (.cells #[.slice a0 L.secs.length p0, .slice a1 L.sigs.length p1, .slice a2 L.exits.length p2, .slice a3 L.flanks.length p3, .int .i64 L.t0, .int .i64 L.t1, .int .i64 L.t2, .int .i64 L.t3, .int .i64 L.t4, .int .i64 L.t5, .int .i64 L.t6] 29)) bself).mono ?_)
  rintro e w1 ⟨g, rfl, _, b1⟩
  have HB1 := Lib.hid (bnew b1)
  cases g with
  | true =>
    clear b1
    go_wp2_with fail
    (with_reducible refine (HT.out.2.2 _ HB1.out).mono ?_)
    rintro e w9 ⟨rfl, b9⟩
    have HB9 := Lib.hid (bchain HB1.out b9)
    clear b9
    go_wp2
    go_ret
    exact ⟨rfl, HB9.out⟩
  | false =>
  have hbx : BoxL w1 w.heap.size L ⟨a0, a1, a2, a3, p0, p1, p2, p3⟩ := (BoxL.make (L := L) (p := ⟨a0, a1, a2, a3, p0, p1, p2, p3⟩) _ rfl).below b1
  have HX1 := Lib.hid hbx
  by_cases hx0 : x < 0
  · have d0 : decide (x < 0) = true := decide_eq_true hx0
    clear b1 hbx
    go_wp2_with fail
    (with_reducible refine (HT.out.2.2 _ HB1.out).mono ?_)
    rintro e w9 ⟨rfl, b9⟩
    have HB9 := Lib.hid (bchain HB1.out b9)
    clear b9
    go_wp2
    go_ret
    exact ⟨rfl, HB9.out⟩
  have d0 : decide (x < 0) = false := decide_eq_false hx0
  obtain ⟨n, rfl⟩ : ∃ n : Nat, x = (n : Int) := ⟨x.toNat, by omega⟩
  obtain ⟨c0, c1, c2, c3, c4, c5, c6, c7, c8, c9, c10⟩ := hbx.cells
  have lg := hbx.1
  dsimp only at c0 c1 c2 c3
  clear b1 hbx
  by_cases hn : L.exits.length ≤ n
  · have d1 : decide ((L.exits.length : Int) ≤ (n : Int)) = true := decide_eq_true (by omega)
    have d2 : decide (L.exits.length ≤ n) = true := decide_eq_true hn
    go_wp2_with fail
    (with_reducible refine (HT.out.2.2 _ HB1.out).mono ?_)
    rintro e w9 ⟨rfl, b9⟩
    have HB9 := Lib.hid (bchain HB1.out b9)
    clear b9
    go_wp2
    go_ret
    exact ⟨rfl, HB9.out⟩
  have hn' : n < L.exits.length := by omega
  have d1 : decide ((L.exits.length : Int) ≤ (n : Int)) = false := decide_eq_false (by omega)
  have d2 : decide (L.exits.length ≤ n) = false := decide_eq_false hn
  go_wp2_with fail
  (with_reducible refine (HT.out.1 _ HB1.out).mono ?_)
  rintro e w2 ⟨rfl, b2⟩
  have HB2 := Lib.hid (bchain HB1.out b2)
  have hbx2 := HX1.out.below b2
  clear b2 c0 c1 c2 c3 c4 c5 c6 c7 c8 c9 c10 lg
  cases qt with
  | false =>
    clear hbx2
    go_wp2_with fail
    (with_reducible refine (HT.out.2.2 _ HB2.out).mono ?_)
    rintro e w9 ⟨rfl, b9⟩
    have HB9 := Lib.hid (bchain HB2.out b9)
    clear b9
    go_wp2
    go_ret
    exact ⟨rfl, HB9.out⟩
  | true =>
  obtain ⟨hR, hrules⟩ := (topoR_iff L).1 HQT.out.symm
  have hJN := (rule0_neg L).1 (hrules 0 (by omega))
  have hOV := (rule3_neg L).1 (hrules 3 (by omega))
  obtain ⟨c0, c1, c2, c3, c4, c5, c6, c7, c8, c9, c10⟩ := hbx2.cells
  have lg := hbx2.1
  dsimp only at c0 c1 c2 c3
  obtain ⟨es0, hes, hAt, hov⟩ := HL.out.exits
  have hlen : es0.length = L.exits.length := by rw [← hes, List.length_map]
  obtain ⟨eb, eo, hAe, hrow⟩ := hAt.get (j := n) (by omega)
  obtain ⟨y, hy⟩ : ∃ y, es0[n]? = some y := ⟨es0[n]'(by omega), List.getElem?_eq_getElem (by omega)⟩
  have hx : L.exits[n]? = some y.1 := by rw [← hes, List.getElem?_map, hy]; rfl
  have hxm : y.1 ∈ L.exits := List.mem_of_getElem? hx
  have k0 : w.cell? ⟨eb, eo + n * 3, none⟩ = some (.int .i64 y.1.s) := hrow.2 n y hy 0 _ rfl
  have k1 : w.cell? ⟨eb, eo + n * 3 + 1, none⟩ = some (.int .i64 y.1.p) := hrow.2 n y hy 1 _ rfl
  have k2 : w.cell? ⟨eb, eo + n * 3 + 2, none⟩ = some y.2 := hrow.2 n y hy 2 _ rfl
  obtain ⟨vA, vc, ve, hvl, hvm, hva⟩ := hov y (List.mem_of_getElem? hy)
  rw [ve] at k2
  dsimp only at hAe
  subst hAe
  have lb := hrow.1
  have hoX : overX L (n : Nat) = true := by
    unfold overX
    rw [hR, Bool.true_and, if_pos (by omega), Int.toNat_natCast, hx]
    exact hOV _ hxm
  have hrr : overF L y.1.s y.1.p [y.1.s] y.1.over = true := hOV _ hxm
  have hhas : hasB L y.1.s y.1.p = true := ((right_iff L).1 hR).2.2.2.2.2.2.1 _ hxm
  have hstp : ∀ z ∈ y.1.over, stepB L z.s z.i z.o = true := by
    have := ((right_iff L).1 hR).2.2.2.2.2.2.2 _ hxm
    unfold overT at this
    rw [Bool.and_eq_true, List.all_eq_true] at this
    exact this.2
  obtain ⟨⟨es, ep, ov⟩, yv⟩ := y
  dsimp only at k0 k1 k2 hrr hvl hva hhas hstp
  obtain ⟨len, hlen2⟩ : ∃ len, len = ov.length := ⟨_, rfl⟩
  rw [← hlen2] at k2 hvl
  have mo : len ≤ 9223372036854775807 := by have : vc ≤ 9223372036854775807 := hvm; omega
  have HOV := Lib.hid (⟨hlen2, hva, hstp⟩ : _ ∧ _ ∧ _)
  have HRR := Lib.hid (⟨hrr, hhas⟩ : _ ∧ _)
  have HK := Lib.hid (⟨k0, k1, k2⟩ : _ ∧ _ ∧ _)
  have HX2 := Lib.hid hbx2
  have HJN := Lib.hid hJN
  have hov2 := HT.out.2.1
  rw [hoX] at hov2
  have HO2 := Lib.hid hov2
  clear hes hAt hov hlen hrow hy hx hxm ve hvl hvm hva hrr hlen2 hn hx0 hhas hstp hoX hR hrules hJN hOV hbx2 hov2 k0 k1 k2
  go_wp2_with fail
  (with_reducible refine (HO2.out _ HB2.out).mono ?_)
  rintro e w3 ⟨rfl, b3⟩
  have hbx3 := HX2.out.below b3
  have hB3 := bchain HB2.out b3
  have hcell := fun o v (h : w.cell? ⟨eb, o, none⟩ = some v) => (hB3.cell (p := ⟨eb, o, none⟩) lb).trans h
  have k0 := hcell _ _ HK.out.1
  have k1 := hcell _ _ HK.out.2.1
  have k2 := hcell _ _ HK.out.2.2
  clear c0 c1 c2 c3 c4 c5 c6 c7 c8 c9 c10 lg b3 HO2
  have c2 := hbx3.cells.2.2.1
  dsimp only at c2
  have lg := hbx3.1
  have lb3 := Nat.lt_of_lt_of_le lb hB3.size
  have HX3 := Lib.hid hbx3
  have HB3 := Lib.hid hB3
  have hn0 : (0 : Int) ≤ (n : Int) := by omega
  have hn1 : (n : Int) < (L.exits.length : Int) := by omega
  have n1 := World.new_ne w3 _ k0
  have n2 := World.new_ne w3 _ c2
  clear hbx3 hB3 hcell
  go_wp2_with fail
  go_region_held3 (fun w' => w'.cell? ⟨eb, eo + n * 3, none⟩ = some (.int .i64 es) ∧ w'.cell? ⟨eb, eo + n * 3 + 1, none⟩ = some (.int .i64 ep) ∧ w'.cell? ⟨eb, eo + n * 3 + 2, none⟩ = some (.slice vA len vc) ∧ w'.cell? ⟨w.heap.size, 2, none⟩ = some (.slice (some ⟨eb, eo, none⟩) L.exits.length p2)) (go_keep) (fail)
  obtain ⟨X, hX⟩ : ∃ X, X = (w3.alloc (.cells #[.int .i64 es, .int .i64 ep] 37)).drew := ⟨_, rfl⟩
  have hX3 : Below w3.heap.size w3 X := by rw [hX]; exact (bself).drew
  have hbX : BoxL X w.heap.size L ⟨a0, a1, some ⟨eb, eo, none⟩, a3, p0, p1, p2, p3⟩ := HX3.out.below hX3
  have q0 : X.cell? ⟨w3.heap.size, 0, none⟩ = some (.int .i64 es) := by rw [hX]; simp [go_sem]
  have q1 : X.cell? ⟨w3.heap.size, 1, none⟩ = some (.int .i64 ep) := by rw [hX]; simp [go_sem]
  have qf : ∀ o, X.frozen? ⟨w3.heap.size, o, none⟩ = false := fun o => by rw [hX]; simp [go_sem]
  have lwg : w.heap.size < w3.heap.size := lg
  rw [← hX]
  have HX := Lib.hid (⟨bchain HB3.out hX3, hbX, q0, q1, qf⟩ : _ ∧ _ ∧ _ ∧ _ ∧ _)
  clear hX hX3 hbX q0 q1 qf n1 n2 k0 k1 k2 c2 lb3 lg
  generalize w3.heap.size = g5 at HX lwg ⊢
  go_wp2_with fail
  go_loopw [7] (fun c wr => ∃ (k : Nat) (s q : Int) (ss : List Int), k ≤ len ∧ c = .int .i64 k ∧ Hid (Below w.heap.size w wr ∧ BoxL wr w.heap.size L ⟨a0, a1, some ⟨eb, eo, none⟩, a3, p0, p1, p2, p3⟩ ∧ wr.cell? ⟨g5, 0, none⟩ = some (.int .i64 s) ∧ wr.cell? ⟨g5, 1, none⟩ = some (.int .i64 q) ∧ ∀ o, wr.frozen? ⟨g5, o, none⟩ = false) ∧
      Hid (overF L s q ss (ov.drop k) = true ∧ hasB L s q = true) ∧ Hid (∀ z : Int, z ∈ ss ↔ z = es ∨ ∃ (j : Nat) (y : Stp), j < k ∧ ov[j]? = some y ∧ y.s = z)) (fun c _ => len - (intOf c).toNat)
  case atStart => exact ⟨0, es, ep, [es], Nat.zero_le _, rfl, HX, HRR, Lib.hid (fun z => by
    constructor
    · intro h; exact .inl (List.mem_singleton.1 h)
    · rintro (h | ⟨j, y, hj, _⟩)
      · exact List.mem_singleton.2 h
      · exact absurd hj (Nat.not_lt_zero _))⟩
  case round =>
    obtain ⟨k, s, q, ss, hk, rfl, HI, HQ, HSS⟩ := hrel
    clear HX HRR
    by_cases hlt : k < len
    · obtain ⟨b, off, hAe, hrow⟩ := (HOV.out.2.1.below HI.out.1).get (j := k) (by rw [← HOV.out.1]; exact hlt)
      subst hAe
      obtain ⟨y, hy⟩ : ∃ y, ov[k]? = some y := ⟨ov[k]'(by rw [← HOV.out.1]; exact hlt), List.getElem?_eq_getElem _⟩
      have hdrop : ov.drop k = y :: ov.drop (k + 1) := by
        have hl : k < ov.length := by rw [← HOV.out.1]; exact hlt
        rw [List.drop_eq_getElem_cons hl]
        have : ov[k] = y := by rw [List.getElem?_eq_getElem hl] at hy; exact Option.some.inj hy
        rw [this]
      have hq := HQ.out.1
      rw [hdrop, overF_cons, Bool.and_eq_true, Bool.and_eq_true, decide_eq_true_iff] at hq
      obtain ⟨m, c, hms, hml, hmc, hcm, hway, hin, hout⟩ := step_facts (HOV.out.2.2 y (List.mem_of_getElem? hy))
      obtain ⟨⟨ys, yi, yo⟩, rfl⟩ : ∃ z : Stp, z = y := ⟨_, rfl⟩
      dsimp only at hq hms hway hin hout
      subst hms
      have hbk := bey_back HJN.out HQ.out.2 hq.1.1 (by omega)
      have hns : (ss.contains (m : Int)) = false := by simpa using hq.1.2
      have hnes : (m : Int) ≠ es := fun h => by
        have := (HSS.out (m : Int)).2 (.inl h)
        rw [List.contains_iff_mem.2 this] at hns
        cases hns
      have HNJ := Lib.hid (fun (j : Nat) (v : Stp) (hj : j < k) (hv : ov[j]? = some v) (h : v.s = (m : Int)) => show False by
        have := (HSS.out (m : Int)).2 (.inr ⟨j, v, hj, hv, h⟩)
        rw [List.contains_iff_mem.2 this] at hns
        cases hns)
      have z0 : wr.cell? ⟨b, off + k * 3, none⟩ = some (.int .i64 (m : Nat)) := hrow.2 k _ hy 0 _ rfl
      have z1 : wr.cell? ⟨b, off + k * 3 + 1, none⟩ = some (.int .i64 yi) := hrow.2 k _ hy 1 _ rfl
      have z2 : wr.cell? ⟨b, off + k * 3 + 2, none⟩ = some (.int .i64 yo) := hrow.2 k _ hy 2 _ rfl
      have lbw : b < wr.heap.size := hrow.1
      obtain ⟨sb, so, hAs, hrs⟩ := (HL.out.below HI.out.1).secs.get hml
      dsimp only at hAs
      subst hAs
      have kk' : wr.cell? ⟨sb, so + m * 11, none⟩ = some (.int .u8 c.k) := hrs.2 m c hmc 0 _ rfl
      have lsb := hrs.1
      have hbxr := HI.out.2.1
      obtain ⟨c0, c1, c2, c3, c4, c5, c6, c7, c8, c9, c10⟩ := hbxr.cells
      have lg := hbxr.1
      dsimp only at c0 c1 c2 c3
      have e0' : wr.cell? ⟨eb, eo + n * 3, none⟩ = some (.int .i64 es) := (HI.out.1.cell (p := ⟨eb, eo + n * 3, none⟩) lb).trans HK.out.1
      have leb : eb < wr.heap.size := Nat.lt_of_lt_of_le lb HI.out.1.size
      have l5 : g5 < wr.heap.size := World.block_lt_of_cell? _ _ HI.out.2.2.1
      have hwy := fun V => rWay_any c.k yi yo V
      rw [hway] at hwy
      generalize wayN c.k yi yo = wn at hwy
      have HWY := Lib.hid hwy
      have hbey := fun V (h : Below wr.heap.size wr V) => rBey_any L ⟨some ⟨sb, so, none⟩, a1, some ⟨eb, eo, none⟩, a3, p0, p1, p2, p3⟩ s q V (HL.out.below (bchain HI.out.1 h))
      rw [hq.1.1] at hbey
      have hbey2 := fun V (h : Below wr.heap.size wr V) => rBey_any L ⟨some ⟨sb, so, none⟩, a1, some ⟨eb, eo, none⟩, a3, p0, p1, p2, p3⟩ (m : Int) yi V (HL.out.below (bchain HI.out.1 h))
      rw [hbk] at hbey2
      dsimp only at hbey hbey2
      unfold Lay.val at hbey hbey2
      have HBY := Lib.hid (⟨hbey, hbey2⟩ : _ ∧ _)
      have HRO := Lib.hid (⟨hrow, hy⟩ : _ ∧ _)
      have HBXr := Lib.hid hbxr
      have HQ3 := Lib.hid (⟨hq.2, hout⟩ : _ ∧ _)
      have d3 : decide ((m : Int) < 0) = false := decide_eq_false (by omega)
      have d4 : decide ((L.secs.length : Int) ≤ (m : Int)) = false := decide_eq_false (by omega)
      have d5 : decide (L.secs.length ≤ m) = false := decide_eq_false (by omega)
      have KKc := Lib.hid (⟨kk', lsb, e0', leb⟩ : _ ∧ _ ∧ _ ∧ _)
      clear hrow hy hdrop hq hway hin hout hbk hns hwy hbey hbey2 hrs hcm hmc hbxr kk' e0'
      generalize c.k = ck at HWY KKc
      go_wp2_with fail
      obtain ⟨Y, hY⟩ : ∃ Y, Y = wr.alloc (.cells #[.int .i64 (m : Nat), .int .i64 yi, .int .i64 yo] 42) := ⟨_, rfl⟩
      have hYB : Below wr.heap.size wr Y := by rw [hY]; exact bself
      have l8 : wr.heap.size < Y.heap.size := by rw [hY]; simp
      have u0 : ∀ V', ClB Y V' → V'.cell? ⟨wr.heap.size, 0, none⟩ = some (.int .i64 (m : Nat)) := fun V' h => (h.cell (p := ⟨wr.heap.size, 0, none⟩) l8).trans (by rw [hY]; simp [go_sem])
      have u1 : ∀ V', ClB Y V' → V'.cell? ⟨wr.heap.size, 1, none⟩ = some (.int .i64 yi) := fun V' h => (h.cell (p := ⟨wr.heap.size, 1, none⟩) l8).trans (by rw [hY]; simp [go_sem])
      have u2 : ∀ V', ClB Y V' → V'.cell? ⟨wr.heap.size, 2, none⟩ = some (.int .i64 yo) := fun V' h => (h.cell (p := ⟨wr.heap.size, 2, none⟩) l8).trans (by rw [hY]; simp [go_sem])
      have HU := Lib.hid (⟨u0, u1, u2⟩ : _ ∧ _ ∧ _)
      rw [← hY]
      have HYB := Lib.hid hYB
      have hbxY := HBXr.out.below hYB
      clear c0 c1 c2 c3 c4 c5 c6 c7 c8 c9 c10 lg z0 z1 z2 hY
      have c0 : ∀ V', ClB Y V' → V'.cell? ⟨w.heap.size, 0, none⟩ = some (.slice (some ⟨sb, so, none⟩) L.secs.length p0) := fun V' h => (hbxY.below h).cells.1
      have kk : ∀ V', ClB Y V' → V'.cell? ⟨sb, so + m * 11, none⟩ = some (.int .u8 ck) := fun V' h => ((bchain hYB h).cell (p := ⟨sb, so + m * 11, none⟩) KKc.out.2.1).trans KKc.out.1
      generalize hg8 : wr.heap.size = g8 at u0 u1 u2 HU l8 ⊢
      clear hYB
      focus
        refine wp_region_rel_below [([(2, none)], none), ([(70, some 0)], none), ([(8, none)], none), ([(72, some 0)], none), ([(71, some 2), (73, some 0)], none), ([(74, some 0)], none), ([(75, some 0)], none), ([(8, none)], none), ([(77, some 0)], none), ([(8, none)], none), ([(79, some 0)], none), ([(76, some 4), (78, some 2), (80, some 0)], none), ([(81, some 0)], none), ([(69, some 0)], none), ([(69, some 1)], none), ([(82, some 1)], none), ([(83, some 1)], none)] [(0, 10), (1, 9)] (by kernel_rfl) (by kernel_rfl) ?_
        refine ob_det (c := .pointer (some ⟨w.heap.size, 0, none⟩)) ?_ ?_
        · intro ρ W hk hC
          simp only [seen, obOp]
          rintro h2
          replace h2 : ρ (.tmp 2) = .pointer (some ⟨w.heap.size, 0, none⟩) := h2.trans rfl
          exact rel_value (by simp [go_sem, h2]) hC
        refine ob_det (c := .slice (some ⟨sb, so, none⟩) L.secs.length p0) ?_ ?_
        · intro ρ W hk hC
          simp only [seen, obOp, List.getD_cons_zero]
          rintro h70
          exact rel_value (by simp [go_sem, h70, c0 W hC]) hC
        refine ob_det (c := .pointer (some ⟨g8, 0, none⟩)) ?_ ?_
        · intro ρ W hk hC
          simp only [seen, obOp]
          rintro h8
          replace h8 : ρ (.tmp 8) = .pointer (some ⟨g8, 0, none⟩) := h8.trans rfl
          exact rel_value (by simp [go_sem, h8]) hC
        refine ob_det (c := .int .i64 (m : Nat)) ?_ ?_
        · intro ρ W hk hC
          simp only [seen, obOp, List.getD_cons_zero]
          rintro h72
          exact rel_value (by simp [go_sem, h72, u0 W hC]) hC
        refine ob_det (c := .pointer (some ⟨sb, so + m * 11, none⟩)) ?_ ?_
        · intro ρ W hk hC
          simp only [seen, obOp, List.getD_cons_zero, List.getD_cons_succ]
          rintro h71 h73
          exact rel_value (by simp [go_sem, h71, h73, hml]) hC
        refine ob_det (c := .pointer (some ⟨sb, so + m * 11, none⟩)) ?_ ?_
        · intro ρ W hk hC
          simp only [seen, obOp, List.getD_cons_zero]
          rintro h74
          exact rel_value (by simp [go_sem, h74]) hC
        refine ob_det (c := .int .u8 ck) ?_ ?_
        · intro ρ W hk hC
          simp only [seen, obOp, List.getD_cons_zero]
          rintro h75
          exact rel_value (by simp [go_sem, h75, kk W hC]) hC
        refine ob_det (c := .pointer (some ⟨g8, 1, none⟩)) ?_ ?_
        · intro ρ W hk hC
          simp only [seen, obOp]
          rintro h8
          replace h8 : ρ (.tmp 8) = .pointer (some ⟨g8, 0, none⟩) := h8.trans rfl
          exact rel_value (by simp [go_sem, h8]) hC
        refine ob_det (c := .int .i64 yi) ?_ ?_
        · intro ρ W hk hC
          simp only [seen, obOp, List.getD_cons_zero]
          rintro h77
          exact rel_value (by simp [go_sem, h77, u1 W hC]) hC
        refine ob_det (c := .pointer (some ⟨g8, 2, none⟩)) ?_ ?_
        · intro ρ W hk hC
          simp only [seen, obOp]
          rintro h8
          replace h8 : ρ (.tmp 8) = .pointer (some ⟨g8, 0, none⟩) := h8.trans rfl
          exact rel_value (by simp [go_sem, h8]) hC
        refine ob_det (c := .int .i64 yo) ?_ ?_
        · intro ρ W hk hC
          simp only [seen, obOp, List.getD_cons_zero]
          rintro h79
          exact rel_value (by simp [go_sem, h79, u2 W hC]) hC
        refine ob_det (c := .tuple #[.int .i64 wn, .bool true]) ?_ ?_
        · intro ρ W hk hC
          simp only [seen, obOp, List.getD_cons_zero, List.getD_cons_succ]
          rintro h76 h78 h80
          exact rel_call (f := 16) (args := #[.int .u8 ck, .int .i64 yi, .int .i64 yo]) (by simp [go_sem, h76, h78, h80, hk.func]) hC (HWY.out W)
        refine ob_det (c := .tuple #[.int .i64 wn, .bool true]) ?_ ?_
        · intro ρ W hk hC
          simp only [seen, obOp, List.getD_cons_zero]
          rintro h81
          exact rel_value (by simp [go_sem, h81]) hC
        refine ob_det (c := .int .i64 wn) ?_ ?_
        · intro ρ W hk hC
          simp only [seen, obOp, List.getD_cons_zero]
          rintro h69
          exact rel_value (by simp [go_sem, h69]) hC
        refine ob_det (c := .bool true) ?_ ?_
        · intro ρ W hk hC
          simp only [seen, obOp, List.getD_cons_zero, List.getD_cons_succ]
          rintro h69
          exact rel_value (by simp [go_sem, h69]) hC
        refine ob_det (c := .int .i64 wn) ?_ ?_
        · intro ρ W hk hC
          simp only [seen, obOp, List.getD_cons_zero, List.getD_cons_succ]
          rintro h82
          exact rel_value (by simp [go_sem, h82]) hC
        refine ob_det (c := .bool true) ?_ ?_
        · intro ρ W hk hC
          simp only [seen, obOp, List.getD_cons_zero, List.getD_cons_succ]
          rintro h83
          exact rel_value (by simp [go_sem, h83]) hC
        intro vs w5 hC5
        simp only [endSeen, List.getD_cons_zero, List.getD_cons_succ]
        intro h10 h9
        simp only [writeAll, List.setIfInBounds_toArray, List.set_cons_zero, List.set_cons_succ, h10, h9]
        replace u0 := u0 _ hC5
        replace u1 := u1 _ hC5
        replace u2 := u2 _ hC5
        have l85 := Nat.lt_of_lt_of_le l8 hC5.size
        have HC5 := Lib.hid hC5
        clear hC5 c0 kk hbxY
        go_wp2_with fail
        obtain ⟨V, hV⟩ : ∃ V, V = w5.alloc (.cells #[.int .i64 (m : Nat), .int .i64 yi] 37) := ⟨_, rfl⟩
        have hVB : Below w5.heap.size w5 V := by rw [hV]; exact bself
        have l11 : w5.heap.size < V.heap.size := by rw [hV]; simp
        have v0 : ∀ V', ClB V V' → V'.cell? ⟨w5.heap.size, 0, none⟩ = some (.int .i64 (m : Nat)) := fun V' h => (h.cell (p := ⟨w5.heap.size, 0, none⟩) l11).trans (by rw [hV]; simp [go_sem])
        have v1 : ∀ V', ClB V V' → V'.cell? ⟨w5.heap.size, 1, none⟩ = some (.int .i64 yi) := fun V' h => (h.cell (p := ⟨w5.heap.size, 1, none⟩) l11).trans (by rw [hV]; simp [go_sem])
        have hYV : Below Y.heap.size Y V := bchain HC5.out hVB
        have hrV : Below wr.heap.size wr V := bchain HYB.out hYV
        rw [← hV]
        replace u0 : ∀ V', ClB V V' → V'.cell? ⟨g8, 0, none⟩ = some (.int .i64 (m : Nat)) := fun V' h => HU.out.1 V' (bchain hYV h)
        have x0 : ∀ V', ClB V V' → V'.cell? ⟨g5, 0, none⟩ = some (.int .i64 s) := fun V' h => ((bchain hrV h).cell (p := ⟨g5, 0, none⟩) l5).trans HI.out.2.2.1
        have x1 : ∀ V', ClB V V' → V'.cell? ⟨g5, 1, none⟩ = some (.int .i64 q) := fun V' h => ((bchain hrV h).cell (p := ⟨g5, 1, none⟩) l5).trans HI.out.2.2.2.1
        have e0 : ∀ V', ClB V V' → V'.cell? ⟨eb, eo + n * 3, none⟩ = some (.int .i64 es) := fun V' h => ((bchain hrV h).cell (p := ⟨eb, eo + n * 3, none⟩) KKc.out.2.2.2).trans KKc.out.2.2.1
        have HBX := Lib.hid (HBXr.out.below hrV)
        have c2 : ∀ V', ClB V V' → V'.cell? ⟨w.heap.size, 2, none⟩ = some (.slice (some ⟨eb, eo, none⟩) L.exits.length p2) := fun V' h => (HBX.out.below h).cells.2.2.1
        have HY := Lib.hid (⟨fun V' (h : ClB V V') => HBY.out.1 V' (bchain hrV h), fun V' (h : ClB V V') => HBY.out.2 V' (bchain hrV h)⟩ : _ ∧ _)
        have hqE : ∀ V', (Op.equalIn 10000 37 (.agg #[.int .i64 (m : Nat), .int .i64 yi]) (.agg #[.int .i64 (m : Nat), .int .i64 yi])).run Tryd.prog V' = .ok true V' := fun V' => by rw [eqQ_portI]; simp
        have hqP : ∀ V', (Op.equalIn 10000 37 (.agg #[.int .i64 s, .int .i64 q]) (.agg #[.int .i64 s, .int .i64 q])).run Tryd.prog V' = .ok true V' := fun V' => by rw [eqQ_portI]; simp
        have hnl : n < L.exits.length := hn'
        have hes : ¬ (m : Int) = es := hnes
        have HRV := Lib.hid hrV
        have HYV := Lib.hid hYV
        clear u1 u2 hV hVB hYV hrV l85 hg8 l11
        generalize w5.heap.size = g11 at v0 v1 ⊢
        focus
          refine wp_region_rel_below [([(10, none)], none), ([(89, some 0)], none), ([(90, some 0)], none), ([(2, none), (91, some 0)], some (91, false)), ([(5, none), (91, some 1)], some (91, false)), ([(92, some 1), (93, some 0), (91, some 2)], some (91, false)), ([(11, none), (91, some 3)], some (91, false)), ([(94, some 1), (95, some 0), (91, some 4)], some (91, false)), ([(91, some 5), (96, some 0)], none), ([(97, some 0)], none), ([(2, none), (98, some 0)], some (98, false)), ([(11, none), (98, some 1)], some (98, false)), ([(99, some 1), (100, some 0), (98, some 2)], some (98, false)), ([(5, none), (98, some 3)], some (98, false)), ([(101, some 1), (102, some 0), (98, some 4)], some (98, false)), ([(98, some 5), (103, some 0)], none), ([(104, some 0)], none), ([(8, none), (105, some 0)], some (105, false)), ([(106, some 0), (105, some 1)], some (105, false)), ([(2, none), (105, some 2)], some (105, false)), ([(108, some 0), (105, some 3)], some (105, false)), ([(1, none), (105, some 4)], some (105, false)), ([(109, some 1), (110, some 0), (105, some 5)], some (105, false)), ([(111, some 0), (105, some 6)], some (105, false)), ([(112, some 0), (105, some 7)], some (105, false)), ([(113, some 0), (105, some 8)], some (105, false)), ([(107, some 7), (114, some 0), (105, some 9)], some (105, false)), ([(105, some 10), (115, some 0)], none)] [(0, 116)] (by kernel_rfl) (by kernel_rfl) ?_
          refine ob_det (c := .bool true) ?_ ?_
          · intro ρ W hk hC
            simp only [seen, obOp]
            rintro h10
            replace h10 : ρ (.tmp 10) = .bool true := h10.trans rfl
            exact rel_value (by simp [go_sem, h10]) hC
          refine ob_det (c := .bool false) ?_ ?_
          · intro ρ W hk hC
            simp only [seen, obOp, List.getD_cons_zero]
            rintro h89
            exact rel_value (by simp [go_sem, h89]) hC
          refine ob_det (c := .bool false) ?_ ?_
          · intro ρ W hk hC
            simp only [seen, obOp, List.getD_cons_zero]
            rintro h90
            exact rel_value (by simp [go_sem, h90]) hC
          refine ob_det (c := .agg #[.slice (some ⟨sb, so, none⟩) L.secs.length p0, .slice a1 L.sigs.length p1, .slice (some ⟨eb, eo, none⟩) L.exits.length p2, .slice a3 L.flanks.length p3, .int .i64 L.t0, .int .i64 L.t1, .int .i64 L.t2, .int .i64 L.t3, .int .i64 L.t4, .int .i64 L.t5, .int .i64 L.t6]) ?_ ?_
          · intro ρ W hk hC
            simp only [seen, obOp, List.getD_cons_zero]
            rintro h2 h91
            replace h2 : ρ (.tmp 2) = .pointer (some ⟨w.heap.size, 0, none⟩) := h2.trans rfl
            refine ⟨fun _ => ?_, fun hn => absurd h91 hn⟩
            exact rel_value (runLoad h2 (HBX.out.below hC)) hC
          refine ob_det (c := .agg #[.int .i64 s, .int .i64 q]) ?_ ?_
          · intro ρ W hk hC
            simp only [seen, obOp, List.getD_cons_zero, List.getD_cons_succ]
            rintro h5 h91
            replace h5 : ρ (.tmp 5) = .pointer (some ⟨g5, 0, none⟩) := h5.trans rfl
            refine ⟨fun _ => ?_, fun hn => absurd h91 hn⟩
            exact rel_value (by simp [go_sem, h5, x0 W hC, x1 W hC]) hC
          refine ob_det (c := .agg #[.int .i64 (m : Nat), .int .i64 yi]) ?_ ?_
          · intro ρ W hk hC
            simp only [seen, obOp, List.getD_cons_zero, List.getD_cons_succ]
            rintro h92 h93 h91
            refine ⟨fun _ => ?_, fun hn => absurd h91 hn⟩
            exact rel_call (f := 17) (args := #[.agg #[.slice (some ⟨sb, so, none⟩) L.secs.length p0, .slice a1 L.sigs.length p1, .slice (some ⟨eb, eo, none⟩) L.exits.length p2, .slice a3 L.flanks.length p3, .int .i64 L.t0, .int .i64 L.t1, .int .i64 L.t2, .int .i64 L.t3, .int .i64 L.t4, .int .i64 L.t5, .int .i64 L.t6], .agg #[.int .i64 s, .int .i64 q]]) (by simp [go_sem, h92, h93, hk.func]) hC (HY.out.1 W hC)
          refine ob_det (c := .agg #[.int .i64 (m : Nat), .int .i64 yi]) ?_ ?_
          · intro ρ W hk hC
            simp only [seen, obOp, List.getD_cons_zero, List.getD_cons_succ]
            rintro h11 h91
            replace h11 : ρ (.tmp 11) = .pointer (some ⟨g11, 0, none⟩) := h11.trans rfl
            refine ⟨fun _ => ?_, fun hn => absurd h91 hn⟩
            exact rel_value (by simp [go_sem, h11, v0 W hC, v1 W hC]) hC
          refine ob_det (c := .bool false) ?_ ?_
          · intro ρ W hk hC
            simp only [seen, obOp, List.getD_cons_zero, List.getD_cons_succ]
            rintro h94 h95 h91
            refine ⟨fun _ => ?_, fun hn => absurd h91 hn⟩
            exact rel_value (by simp [go_sem, h94, h95, hqE]) hC
          refine ob_det (c := .bool false) ?_ ?_
          · intro ρ W hk hC
            simp only [seen, obOp, List.getD_cons_zero, List.getD_cons_succ]
            rintro h91 h96
            exact rel_value (by simp [go_sem, h91, h96, hk.const]) hC
          refine ob_det (c := .bool false) ?_ ?_
          · intro ρ W hk hC
            simp only [seen, obOp, List.getD_cons_zero]
            rintro h97
            exact rel_value (by simp [go_sem, h97]) hC
          refine ob_det (c := .agg #[.slice (some ⟨sb, so, none⟩) L.secs.length p0, .slice a1 L.sigs.length p1, .slice (some ⟨eb, eo, none⟩) L.exits.length p2, .slice a3 L.flanks.length p3, .int .i64 L.t0, .int .i64 L.t1, .int .i64 L.t2, .int .i64 L.t3, .int .i64 L.t4, .int .i64 L.t5, .int .i64 L.t6]) ?_ ?_
          · intro ρ W hk hC
            simp only [seen, obOp, List.getD_cons_zero]
            rintro h2 h98
            replace h2 : ρ (.tmp 2) = .pointer (some ⟨w.heap.size, 0, none⟩) := h2.trans rfl
            refine ⟨fun _ => ?_, fun hn => absurd h98 hn⟩
            exact rel_value (runLoad h2 (HBX.out.below hC)) hC
          refine ob_det (c := .agg #[.int .i64 (m : Nat), .int .i64 yi]) ?_ ?_
          · intro ρ W hk hC
            simp only [seen, obOp, List.getD_cons_zero, List.getD_cons_succ]
            rintro h11 h98
            replace h11 : ρ (.tmp 11) = .pointer (some ⟨g11, 0, none⟩) := h11.trans rfl
            refine ⟨fun _ => ?_, fun hn => absurd h98 hn⟩
            exact rel_value (by simp [go_sem, h11, v0 W hC, v1 W hC]) hC
          refine ob_det (c := .agg #[.int .i64 s, .int .i64 q]) ?_ ?_
          · intro ρ W hk hC
            simp only [seen, obOp, List.getD_cons_zero, List.getD_cons_succ]
            rintro h99 h100 h98
            refine ⟨fun _ => ?_, fun hn => absurd h98 hn⟩
            exact rel_call (f := 17) (args := #[.agg #[.slice (some ⟨sb, so, none⟩) L.secs.length p0, .slice a1 L.sigs.length p1, .slice (some ⟨eb, eo, none⟩) L.exits.length p2, .slice a3 L.flanks.length p3, .int .i64 L.t0, .int .i64 L.t1, .int .i64 L.t2, .int .i64 L.t3, .int .i64 L.t4, .int .i64 L.t5, .int .i64 L.t6], .agg #[.int .i64 (m : Nat), .int .i64 yi]]) (by simp [go_sem, h99, h100, hk.func]) hC (HY.out.2 W hC)
          refine ob_det (c := .agg #[.int .i64 s, .int .i64 q]) ?_ ?_
          · intro ρ W hk hC
            simp only [seen, obOp, List.getD_cons_zero, List.getD_cons_succ]
            rintro h5 h98
            replace h5 : ρ (.tmp 5) = .pointer (some ⟨g5, 0, none⟩) := h5.trans rfl
            refine ⟨fun _ => ?_, fun hn => absurd h98 hn⟩
            exact rel_value (by simp [go_sem, h5, x0 W hC, x1 W hC]) hC
          refine ob_det (c := .bool false) ?_ ?_
          · intro ρ W hk hC
            simp only [seen, obOp, List.getD_cons_zero, List.getD_cons_succ]
            rintro h101 h102 h98
            refine ⟨fun _ => ?_, fun hn => absurd h98 hn⟩
            exact rel_value (by simp [go_sem, h101, h102, hqP]) hC
          refine ob_det (c := .bool false) ?_ ?_
          · intro ρ W hk hC
            simp only [seen, obOp, List.getD_cons_zero, List.getD_cons_succ]
            rintro h98 h103
            exact rel_value (by simp [go_sem, h98, h103, hk.const]) hC
          refine ob_det (c := .bool false) ?_ ?_
          · intro ρ W hk hC
            simp only [seen, obOp, List.getD_cons_zero]
            rintro h104
            exact rel_value (by simp [go_sem, h104]) hC
          refine ob_det (c := .pointer (some ⟨g8, 0, none⟩)) ?_ ?_
          · intro ρ W hk hC
            simp only [seen, obOp, List.getD_cons_zero]
            rintro h8 h105
            replace h8 : ρ (.tmp 8) = .pointer (some ⟨g8, 0, none⟩) := h8.trans rfl
            refine ⟨fun _ => ?_, fun hn => absurd h105 hn⟩
            exact rel_value (by simp [go_sem, h8]) hC
          refine ob_det (c := .int .i64 (m : Nat)) ?_ ?_
          · intro ρ W hk hC
            simp only [seen, obOp, List.getD_cons_zero, List.getD_cons_succ]
            rintro h106 h105
            refine ⟨fun _ => ?_, fun hn => absurd h105 hn⟩
            exact rel_value (by simp [go_sem, h106, u0 W hC]) hC
          refine ob_det (c := .pointer (some ⟨w.heap.size, 2, none⟩)) ?_ ?_
          · intro ρ W hk hC
            simp only [seen, obOp, List.getD_cons_zero, List.getD_cons_succ]
            rintro h2 h105
            replace h2 : ρ (.tmp 2) = .pointer (some ⟨w.heap.size, 0, none⟩) := h2.trans rfl
            refine ⟨fun _ => ?_, fun hn => absurd h105 hn⟩
            exact rel_value (by simp [go_sem, h2]) hC
          refine ob_det (c := .slice (some ⟨eb, eo, none⟩) L.exits.length p2) ?_ ?_
          · intro ρ W hk hC
            simp only [seen, obOp, List.getD_cons_zero, List.getD_cons_succ]
            rintro h108 h105
            refine ⟨fun _ => ?_, fun hn => absurd h105 hn⟩
            exact rel_value (by simp [go_sem, h108, c2 W hC]) hC
          refine ob_det (c := .int .i64 (n : Nat)) ?_ ?_
          · intro ρ W hk hC
            simp only [seen, obOp, List.getD_cons_zero, List.getD_cons_succ]
            rintro h1 h105
            replace h1 : ρ (.tmp 1) = .int .i64 (n : Nat) := h1.trans rfl
            refine ⟨fun _ => ?_, fun hn => absurd h105 hn⟩
            exact rel_value (by simp [go_sem, h1]) hC
          refine ob_det (c := .pointer (some ⟨eb, eo + n * 3, none⟩)) ?_ ?_
          · intro ρ W hk hC
            simp only [seen, obOp, List.getD_cons_zero, List.getD_cons_succ]
            rintro h109 h110 h105
            refine ⟨fun _ => ?_, fun hn => absurd h105 hn⟩
            exact rel_value (by simp [go_sem, h109, h110, hnl]) hC
          refine ob_det (c := .pointer (some ⟨eb, eo + n * 3, none⟩)) ?_ ?_
          · intro ρ W hk hC
            simp only [seen, obOp, List.getD_cons_zero, List.getD_cons_succ]
            rintro h111 h105
            refine ⟨fun _ => ?_, fun hn => absurd h105 hn⟩
            exact rel_value (by simp [go_sem, h111]) hC
          refine ob_det (c := .pointer (some ⟨eb, eo + n * 3, none⟩)) ?_ ?_
          · intro ρ W hk hC
            simp only [seen, obOp, List.getD_cons_zero, List.getD_cons_succ]
            rintro h112 h105
            refine ⟨fun _ => ?_, fun hn => absurd h105 hn⟩
            exact rel_value (by simp [go_sem, h112]) hC
          refine ob_det (c := .int .i64 es) ?_ ?_
          · intro ρ W hk hC
            simp only [seen, obOp, List.getD_cons_zero, List.getD_cons_succ]
            rintro h113 h105
            refine ⟨fun _ => ?_, fun hn => absurd h105 hn⟩
            exact rel_value (by simp [go_sem, h113, e0 W hC]) hC
          refine ob_det (c := .bool false) ?_ ?_
          · intro ρ W hk hC
            simp only [seen, obOp, List.getD_cons_zero, List.getD_cons_succ]
            rintro h107 h114 h105
            refine ⟨fun _ => ?_, fun hn => absurd h105 hn⟩
            exact rel_value (by simp [go_sem, h107, h114, hes]) hC
          refine ob_det (c := .bool false) ?_ ?_
          · intro ρ W hk hC
            simp only [seen, obOp, List.getD_cons_zero, List.getD_cons_succ]
            rintro h105 h115
            exact rel_value (by simp [go_sem, h105, h115, hk.const]) hC
          intro vs w6 hC6
          simp only [endSeen, List.getD_cons_zero]
          intro h116
          simp only [writeAll, List.setIfInBounds_toArray, List.set_cons_zero, List.set_cons_succ, h116]
          have HR6 := Lib.hid (bchain HRV.out hC6)
          have HU6 := Lib.hid (fun V' (h : Below w6.heap.size w6 V') => u0 V' (bchain hC6 h))
          have HY6 := Lib.hid (bchain HYV.out hC6)
          clear hC6 x0 x1 e0 c2 v0 v1 u0 hqE hqP
          go_wp2_with fail
          go_loopw [12] (fun c wi => ∃ i : Nat, i ≤ k ∧ c = .int .i64 i ∧ Hid (Below w6.heap.size w6 wi)) (fun c _ => k - (intOf c).toNat)
          case atStart => exact ⟨0, Nat.zero_le _, rfl, Lib.hid (Below.refl _ _)⟩
          case round =>
            obtain ⟨i, hi, rfl, HBi⟩ := hrel
            obtain ⟨wi, rfl⟩ : ∃ wi : World, wi = wr := ⟨_, rfl⟩
            have t0 := HU6.out wi HBi.out
            have lt8 := World.block_lt_of_cell? _ _ t0
            have hrow := HRO.out.1.below (bchain HR6.out HBi.out)
            have lbi := hrow.1
            by_cases hlti : i < k
            · obtain ⟨v, hv⟩ : ∃ v, ov[i]? = some v := ⟨ov[i]'(by rw [← HOV.out.1]; omega), List.getElem?_eq_getElem _⟩
              have t1 : wi.cell? ⟨b, off + i * 3, none⟩ = some (.int .i64 v.s) := hrow.2 i _ hv 0 _ rfl
              have hil : i < len := by omega
              have hne : ¬ v.s = (m : Int) := fun h => HNJ.out i v hlti hv h
              generalize v.s = vs0 at t1 hne
              have dE : decide (vs0 = (m : Int)) = false := decide_eq_false hne
              have dE2 : (vs0 == (m : Int)) = false := by simpa using hne
              clear hrow hv
              go_wp2_with fail
              refine wp_region_ext (by kernel_rfl) (by kernel_rfl) fun hxx => ?_
              repeat (go_big_quiet_step (fail))
              refine wpQuiet_nil ?_
              intro w7 b7
              have HB7 := Lib.hid (bchain HBi.out b7)
              clear b7 hxx t0 t1 lt8 lbi
              go_wp2
              go_roundw
              case rel => exact ⟨i + 1, by omega, by go_num, HB7⟩
              case measure => simp [intOf]; omega
            · obtain rfl : i = k := by omega
              clear hrow
              have hr6 := bchain HR6.out HBi.out
              have hy6 := bchain HY6.out HBi.out
              have u2 := HU.out.2.2 wi hy6
              have q0 : wi.cell? ⟨g5, 0, none⟩ = some (.int .i64 s) := (hr6.cell (p := ⟨g5, 0, none⟩) l5).trans HI.out.2.2.1
              have q1 : wi.cell? ⟨g5, 1, none⟩ = some (.int .i64 q) := (hr6.cell (p := ⟨g5, 1, none⟩) l5).trans HI.out.2.2.2.1
              have qf := fun o => (hr6.frozen (p := ⟨g5, o, none⟩) l5).trans (HI.out.2.2.2.2 o)
              have f0 := qf 0
              have f1 := qf 1
              have l5i := World.block_lt_of_cell? _ _ q0
              have HW6 := Lib.hid (⟨bchain HI.out.1 hr6, HBXr.out.below hr6, qf⟩ : _ ∧ _ ∧ _)
              clear hr6 hy6 qf
              go_wp2
              have hfin : Below w.heap.size w ((wi.setCell ⟨g5, 0, none⟩ (.int .i64 (m : Nat))).setCell ⟨g5, 1, none⟩ (.int .i64 yo)) := (HW6.out.1.setCell (p := ⟨g5, 0, none⟩) (by dsimp only; omega) _).setCell (p := ⟨g5, 1, none⟩) (by dsimp only; omega) _
              have hfbx : BoxL ((wi.setCell ⟨g5, 0, none⟩ (.int .i64 (m : Nat))).setCell ⟨g5, 1, none⟩ (.int .i64 yo)) w.heap.size L ⟨some ⟨sb, so, none⟩, a1, some ⟨eb, eo, none⟩, a3, p0, p1, p2, p3⟩ := (HW6.out.2.1.set (by omega)).set (by omega)
              have hff : ∀ o, ((wi.setCell ⟨g5, 0, none⟩ (.int .i64 (m : Nat))).setCell ⟨g5, 1, none⟩ (.int .i64 yo)).frozen? ⟨g5, o, none⟩ = false := fun o => by rw [World.frozen?_setCell, World.frozen?_setCell]; exact HW6.out.2.2 o
              go_roundw
              case rel => exact ⟨i + 1, (m : Int), yo, (m : Int) :: ss, by omega, by go_num, Lib.hid ⟨hfin, hfbx, by simp [go_sem, q0], by simp [go_sem, q1], hff⟩, HQ3, Lib.hid (fun z => by
                rw [List.mem_cons, HSS.out]
                constructor
                · rintro (rfl | h | ⟨j, y, hj, hy, hs⟩)
                  · exact .inr ⟨i, _, by omega, HRO.out.2, rfl⟩
                  · exact .inl h
                  · exact .inr ⟨j, y, by omega, hy, hs⟩
                · rintro (h | ⟨j, y, hj, hy, hs⟩)
                  · exact .inr (.inl h)
                  · by_cases e : j = i
                    · subst e
                      rw [HRO.out.2] at hy
                      cases hy
                      exact .inl hs.symm
                    · exact .inr (.inr ⟨j, y, by omega, hy, hs⟩))⟩
              case measure => simp [intOf]; omega
    · obtain rfl : k = len := by omega
      go_wp2_with fail
      (with_reducible refine (HT.out.2.2 _ HI.out.1).mono ?_)
      rintro e w9 ⟨rfl, b9⟩
      have HB9 := Lib.hid (bchain HI.out.1 b9)
      clear b9
      go_wp2
      go_ret
      exact ⟨rfl, HB9.out⟩
end Go.Proofs.YtmnkgnoljllnnaaDoor

/-
  TopoOver: in a layout that hangs together an overlap is a path of its own: each step goes by a way, enters by what lies beyond the one ahead, by turning about one comes back; through no section twice, nor through its exit's.
  Conditions: port.kinds and port.none (and join.end, where it is listed) start as the program's text lays them (the tied card; it ties them to the pruned copy that the seat holds).
-/
namespace Go.Proofs.YtmnkgnoljllnnaaDoor
open Go.RowKit Go.WideShapes Go.ChangeShapes Go.ChangeAt Go.WideMaps Go.WideElems Go.Joins Go.Deep

set_option maxRecDepth 100000 in
theorem topoOver_lifted (os : Os) (started : os.Started) (H : Type) (enc : TypeId × Value → H) :
    ReturnsInHanded {} Tryd.checked os 4 .any (fun w args => (Rows.topoOverSpec.pre enc Tryd.prog Tryd.f4 [] false w args ∧ laidMetH Tryd.prog laidL w) ∧ sizedMet enc Tryd.prog Tryd.f4 (OpenSpec.ofChange Rows.topoOverSpec) false w args)
      (Rows.topoOverSpec.post enc Tryd.prog Tryd.f4 false true false false) := by
  refine law_lifted_laid (C := Tryd.checked) (tb := 4) ownP started (by kernel_rfl) Tryd.func4
    (ChangeSpec.witness_shaped (enc := enc) (C := Tryd.checked) (os := os) (X := fun w _ => laidMetH Tryd.prog laidL w) false (World.doorLaid Tryd.prog 400 os) #[.agg #[.slice none 0 0, .slice none 0 0, .slice none 0 0, .slice none 0 0, .int .i64 0, .int .i64 0, .int .i64 0, .int .i64 0, .int .i64 0, .int .i64 0, .int .i64 0], .int .i64 0] 8 rfl (World.shaped_of_RefB (by kernel_rfl) (by kernel_rfl)) (by kernel_rfl) (by kernel_rfl) (by kernel_rfl) (door_met os _))
    laidP (by kernel_rfl) rfl rfl Tryd.underlying4 ?_
  intro W base args ds p hval0 hA0 hlt hL
  have hval : ∀ (j : Nat) t v, Tryd.f4.params[j]? = some t → args[j]? = some v → Value.okWide Tryd.prog W .any base t v := hval0
  have hA : DataW.TrodAll enc Tryd.prog W 0 (fun _ => true) true Tryd.f4.params.toList args.toList ds p := hA0
  clear hval0 hA0
  rw [Tryd.params4] at hA hval
  obtain ⟨vs⟩ := args
  dsimp only at hA
  obtain ⟨v0, vs0, d0, ds0, p0, q0, rfl, rfl, rfl, h0, hA⟩ := trodAll_cons hA
  obtain ⟨v1, vs1, d1, ds1, p1, q1, rfl, rfl, rfl, h1, hA⟩ := trodAll_cons hA
  obtain ⟨rfl, rfl, rfl⟩ := trodAll_nil hA
  obtain ⟨L0, w0, rfl, hl0⟩ := open_layout (hval 0 29 v0 rfl rfl) h0
  obtain ⟨x1, rfl, rfl, rfl, b1⟩ := open_int Tryd.underlying3 (hval 1 3 v1 rfl rfl) h1
  exact ⟨⟨rfl, rfl, rfl⟩, topoOver_walk L0 w0 x1 W hl0 (kinds_of_laid hL)⟩

theorem topoOver_holds : Rows.TopoOverSaid :=
  OpenClaim.holds_of_wide 4 Tryd.f4 rfl rfl rfl rfl rfl rfl rfl ⟨rfl, rfl, rfl, rfl, rfl⟩ rfl rfl rfl rfl rfl (by kernel_rfl) Tryd.func4 (by kernel_rfl)
    (of_decide_eq_true (by kernel_rfl)) (by unfold Func.isWrapper; first | (rw [if_pos (by decide +kernel)]; kernel_rfl) | (rw [if_neg (of_decide_eq_false (by kernel_rfl))]; exact ⟨rfl, rfl⟩))
    (fun os started H enc _ => topoOver_lifted os started H enc)

theorem topoOver_card : Rows.TopoOverCardSaid :=
  Claim7.holds_tied_plain_at .later [] [.data, .data, .data] true (true, "3cd35ec731902af1efb8ad1e66760989928f8fbf6ddfd2ac00e438de07536a54") false
    topoOver_holds (fun _ h => by cases h) (by kernel_rfl) (fun _ h => by cases h) topoOver_row_tie rfl ⟨rfl, rfl⟩ (by kernel_rfl) rfl
    (fun f fn hf hfn => by
      obtain rfl : f = 4 := Option.some.inj ((show Tryd.prog.funcNamed "lockbar/lockbarlaw09.TopoOver" = some 4 by kernel_rfl).symm.trans hf) |>.symm
      obtain rfl : fn = Tryd.f4 := (Option.some.inj (Tryd.func4.symm.trans hfn)).symm
      exact ⟨by kernel_rfl, fun j t ht => by
        rw [Tryd.params4] at ht
        have hm : t ∈ [29, 3] := by simpa using Array.mem_of_getElem? ht
        have hall : ([29, 3].all fun u => !Tryd.prog.wantsStandIn u) = true := by kernel_rfl
        exact (show Tryd.prog.wantsStandIn t = false by simpa using List.all_eq_true.1 hall t hm)⟩)
    (by kernel_rfl)
#print axioms topoOver_card
end Go.Proofs.YtmnkgnoljllnnaaDoor
