/-
  join.Joined: are a layout's sections joined?
-/
import Derived.Test.YtmnkgnoljllnnaaDoorM2
import Derived.Deep.DeepCutAuto
import Derived.ChangeKeysEq
import Derived.Laws.StructEq

namespace Go.Proofs.YtmnkgnoljllnnaaDoor
open Go.RowKit Go.Shelf
attribute [local go_sem] Oper.semAt_some

theorem Marked.below {n₀ : Nat} {w w' : World} {ds : List Deferred} {Ds : List Nat} (h : Marked n₀ w ds Ds) (hb : Below w.heap.size w w') : Marked n₀ w' ds Ds :=
  ⟨h.eq, h.nodup, fun D hD => ⟨(h.held D hD).1, (hb.block D (Array.getElem?_eq_some_iff.1 (h.held D hD).2).1).trans (h.held D hD).2⟩⟩
theorem Marked.writes {n₀ : Nat} {A : Nat → Prop} {w w' : World} {ds : List Deferred} {Ds : List Nat} (h : Marked n₀ w ds Ds) (hw : Writes A w w') (hA : ∀ b, A b → ∃ o v, w.cell? ⟨b, o, none⟩ = some v) : Marked n₀ w' ds Ds :=
  ⟨h.eq, h.nodup, fun D hD => ⟨(h.held D hD).1, (hw.block D (Array.getElem?_eq_some_iff.1 (h.held D hD).2).1 (fun ha => by
    obtain ⟨o, v, hc⟩ := hA D ha
    obtain ⟨c, e, r, hh⟩ := isCells_of_cell hc
    rw [(h.held D hD).2] at hh
    cases hh)).trans (h.held D hD).2⟩⟩
theorem Marked.cons {n₀ D : Nat} {w : World} {ds : List Deferred} {Ds : List Nat} (h : Marked n₀ w ds Ds) (hD : n₀ ≤ D) (hn : ∀ D' ∈ Ds, D' < D) (hh : w.heap[D]? = some (.deferred (some []))) : Marked n₀ w ({ target := .collected D, args := #[] } :: ds) (D :: Ds) :=
  ⟨by rw [h.eq]; rfl, List.nodup_cons.2 ⟨fun hm => absurd (hn D hm) (Nat.lt_irrefl _), h.nodup⟩, fun D' h' => by
    rcases List.mem_cons.1 h' with rfl | h'
    · exact ⟨hD, hh⟩
    · exact h.held D' h'⟩
theorem Marked.lt {n₀ : Nat} {w : World} {ds : List Deferred} {Ds : List Nat} (h : Marked n₀ w ds Ds) : ∀ D ∈ Ds, D < w.heap.size := fun D hD => (Array.getElem?_eq_some_iff.1 (h.held D hD).2).1

/-- Is what lies beyond a section's port as it must be? -/
def joinB (L : Lay) (i : Int) (j : Nat) : Bool :=
  decide (beyL L i j = endP) || (!decide ((beyL L i j).s = i) && hasB L (beyL L i j).s (beyL L i j).p && decide (beyL L (beyL L i j).s (beyL L i j).p = ⟨i, j⟩))
theorem joinB_eq (L : Lay) (i : Int) (j : Nat) : joinB L i j = (decide (beyL L i j = endP) || (!decide ((beyL L i j).s = i) && hasB L (beyL L i j).s (beyL L i j).p && decide (beyL L (beyL L i j).s (beyL L i j).p = ⟨i, j⟩))) := rfl
def secFine (L : Lay) (i : Nat) : Bool := (match L.secs[i]? with | some c => rightT c | none => true) && (pj L i 4).all (joinB L i)
/-- Are the sections joined? -/
def joinedL (L : Lay) : Bool := decide (L.secs.length ≤ 24) && (List.range L.secs.length).all (secFine L)
theorem joinedL_facts (L : Lay) : (24 < L.secs.length → joinedL L = false) ∧ (∀ i, i < L.secs.length → secFine L i = false → joinedL L = false) ∧ (L.secs.length ≤ 24 → (∀ i, i < L.secs.length → secFine L i = true) → joinedL L = true) := by
  unfold joinedL
  refine ⟨fun h => ?_, fun i hi h => ?_, fun h h2 => ?_⟩
  · rw [decide_eq_false (by omega)]; rfl
  · rw [Bool.and_eq_false_iff]
    exact .inr (List.all_eq_false.2 ⟨i, List.mem_range.2 hi, by rw [h]; simp⟩)
  · rw [decide_eq_true h, Bool.true_and, List.all_eq_true]
    exact fun i hi => h2 i (List.mem_range.1 hi)
theorem secFine_eq {L : Lay} {i : Nat} {c : Sec} (hc : L.secs[i]? = some c) : secFine L i = (rightT c && (pj L i 4).all (joinB L i)) := by
  unfold secFine
  rw [hc]

theorem jports_stops (Bs Bl : Nat) (s : Int) (L : Lay) (P : Where) (w : World) (hL : LayAt w P L) (hB : BoxL w Bl L P) (hK : Kinds w) (hE : JEnd w) (cs : w.cell? ⟨Bs, 0, none⟩ = some (.int .i64 s)) :
    SeqStopsK Fence.wide 4 Tryd.prog 81 #[.pointer (some ⟨Bs, 0, none⟩), .pointer (some ⟨Bl, 0, none⟩)] (pjV L s) (KeepsE NoB NoT w.heap.size) (fun ys => ys = pj L s 4) (fun pre => pre <+: pj L s 4) (pj L s 4).length w := by
  intro l J Jx W hW hJ _ hY hJ0
  exact jports1_in l Bs Bl w.heap.size s L P J Jx W hJ hY (hL.below hW) (hB.below hW) (hK.below hW) (hE.below hW) ((hW.cell (p := ⟨Bs, 0, none⟩) (World.block_lt_of_cell? _ _ cs)).trans cs) hJ0

/-- Where the two variables of the range lie. -/
def JAx (L : Lay) (s : Int) (f : Nat → Nat → Nat → Array Value) (j : Nat) (a' : Act) (W : World) : Prop :=
  ∃ b5 b6 : Nat, a' = { tmps := f b5 b6 j, defers := [] } ∧ b5 < W.heap.size ∧ b6 < W.heap.size ∧ W.cell? ⟨b5, 0, none⟩ = some (.int .i64 s) ∧ W.cell? ⟨b5, 1, none⟩ = some (.int .i64 (j : Nat)) ∧
    W.cell? ⟨b6, 0, none⟩ = some (.int .i64 (beyL L s j).s) ∧ W.cell? ⟨b6, 1, none⟩ = some (.int .i64 (beyL L s j).p)
theorem JAx.same {L : Lay} {s : Int} {f : Nat → Nat → Nat → Array Value} {j : Nat} {a' : Act} {W W' : World} (h : JAx L s f j a' W) (k : SameCells W W') (hs : W.heap.size ≤ W'.heap.size) : JAx L s f j a' W' := by
  obtain ⟨b5, b6, e, l5, l6, c0, c1, c2, c3⟩ := h
  exact ⟨b5, b6, e, Nat.lt_of_lt_of_le l5 hs, Nat.lt_of_lt_of_le l6 hs, k.cell c0, k.cell c1, k.cell c2, k.cell c3⟩
def JX (L : Lay) (i t : Nat) (c : Code) (pre : List Nat) (W : World) : Prop := c = .ret ∧ (∃ j ∈ pre, joinB L i j = false) ∧ W.cell? ⟨t, 0, none⟩ = some (.bool false)

set_option maxRecDepth 100000 in
set_option maxHeartbeats 16000000 in
theorem joinedJ_any (L : Lay) (P : Where) (w : World) (hL : LayAt w P L) (K : Kinds w) (E : JEnd w) :
    Calls Tryd.prog 54 #[L.val P] w fun e w' => e = .returned (.bool (joinedL L)) ∧ Below w.heap.size w w' := by
  have hr := joinedL_facts L
  generalize joinedL L = r at hr ⊢
  have m0 : L.secs.length ≤ 9223372036854775807 := Nat.le_trans hL.l0.1 hL.l0.2
  obtain ⟨a0, a1, a2, a3, p0, p1, p2, p3⟩ := P
  have HR := Lib.hid hr
  have HL := Lib.hid hL
  have HKE := Lib.hid (⟨K, E⟩ : _ ∧ _)
  clear hr hL K E
  refine calls_marked w.heap.size Tryd.func54 rfl ?_
  unfold Lay.val
  simp only [Tryd.ntmps54, List.size_toArray, List.length_cons, List.length_nil, Nat.reduceAdd, Nat.reduceSub, Array.replicate_succ, Array.replicate_zero, List.push_toArray, List.append_toArray, List.nil_append, List.cons_append]
  by_cases h24 : 24 < L.secs.length
  · have d24 : decide ((24 : Int) < (L.secs.length : Int)) = true := decide_eq_true (by omega)
    obtain rfl : r = false := HR.out.1 h24
    clear h24
    go_wp2_with fail
    have eT : True := trivial
    refine ⟨⟨[], Marked.nil _ _⟩, fun w' hb hk => ⟨.bool false, ?_, rfl, ?_⟩⟩
    · have e1 := cells_kept hk (b := w.heap.size + 1) (o := 0) (v := .bool false) (by simp [go_sem])
      simp [results, Tryd.results54, go_sem, e1]
    · exact (bchain bself bself).trans hb
  have d24 : decide ((24 : Int) < (L.secs.length : Int)) = false := decide_eq_false (by omega)
  have H24 := Lib.hid h24
  clear h24
  go_wp2_with fail
  obtain ⟨X, hX⟩ : ∃ X, X = (w.alloc (.cells #[.slice a0 L.secs.length p0, .slice a1 L.sigs.length p1, .slice a2 L.exits.length p2, .slice a3 L.flanks.length p3, .int .i64 L.t0, .int .i64 L.t1, .int .i64 L.t2, .int .i64 L.t3, .int .i64 L.t4, .int .i64 L.t5, .int .i64 L.t6] 29)).alloc (.cells #[.bool false] 4) := ⟨_, rfl⟩
  have hB : Below w.heap.size w X := by rw [hX]; exact bchain bself bself
  have hBL : BoxL X w.heap.size L ⟨a0, a1, a2, a3, p0, p1, p2, p3⟩ := by rw [hX]; exact (BoxL.make _ rfl).below bself
  have hcT : X.cell? ⟨w.heap.size + 1, 0, none⟩ = some (.bool false) := by rw [hX]; simp [go_sem]
  have hfT : X.frozen? ⟨w.heap.size + 1, 0, none⟩ = false := by rw [hX]; simp [go_sem]
  have hsz : X.heap.size = w.heap.size + 2 := by rw [hX]; simp
  rw [← hX]
  have HX := Lib.hid (⟨hB, hBL, hcT, hfT, hsz⟩ : _ ∧ _ ∧ _ ∧ _ ∧ _)
  clear hX hB hBL hcT hfT hsz d24
  refine wp_loop (fun a' wr => ∃ (i : Nat) (Ds : List Nat) (u3 u4 u15 u16 u17 u18 u19 u20 u21 u22 u23 u24 u49 : Value), a' = ({ tmps := #[.agg #[.slice a0 L.secs.length p0, .slice a1 L.sigs.length p1, .slice a2 L.exits.length p2, .slice a3 L.flanks.length p3, .int .i64 L.t0, .int .i64 L.t1, .int .i64 L.t2, .int .i64 L.t3, .int .i64 L.t4, .int .i64 L.t5, .int .i64 L.t6], .pointer (some ⟨w.heap.size, 0, none⟩), .pointer (some ⟨w.heap.size + 1, 0, none⟩), u3, u4, undef, undef, .pointer (some ⟨w.heap.size, 0, none⟩), .slice a0 L.secs.length p0, .int .i64 L.secs.length, .bool false, .pointer (some ⟨w.heap.size, 0, none⟩), .slice a0 L.secs.length p0, .int .i64 L.secs.length, .int .i64 (i : Nat), u15, u16, u17, u18, u19, u20, u21, u22, u23, u24, undef, undef, undef, undef, undef, undef, undef, undef, undef, undef, undef, undef, undef, undef, undef, undef, undef, undef, undef, undef, undef, undef, undef, undef, u49], defers := Ds.map fun D => { target := .collected D, args := #[] } } : Act) ∧ i ≤ L.secs.length ∧ Below X.heap.size X wr ∧ Marked w.heap.size wr (Ds.map fun D => { target := .collected D, args := #[] }) Ds ∧ ∀ j, j < i → secFine L j = true) (fun a' _ => L.secs.length - (intOf (a'.tmps.getD 14 undef)).toNat) ?_ ?_
  · exact ⟨0, [], _, _, _, _, _, _, _, _, _, _, _, _, _, rfl, Nat.zero_le _, Below.refl _ _, Marked.nil _ _, fun j hj => absurd hj (Nat.not_lt_zero _)⟩
  rintro a' wr ⟨i, Ds, u3, u4, u15, u16, u17, u18, u19, u20, u21, u22, u23, u24, u49, rfl, hi, hBr, hM, hF⟩
  have HM := Lib.hid (⟨hBr, hM, hF⟩ : _ ∧ _ ∧ _)
  clear hBr hM hF
  by_cases hlt : i < L.secs.length
  · obtain ⟨b, off, e0, hrow⟩ := (HL.out.below (bchain HX.out.1 HM.out.1)).secs.get hlt
    dsimp only at e0
    subst e0
    obtain ⟨c, hc⟩ : ∃ c, L.secs[i]? = some c := ⟨L.secs[i], List.getElem?_eq_getElem hlt⟩
    obtain ⟨k0, k1, k2, k3, k4, k5, k6, k7, k8, k9, k10⟩ := sec_cells hrow hc
    have lb := hrow.1
    have hk := HL.out.kinds c (List.mem_of_getElem? hc)
    have hright : Calls Tryd.prog 40 #[.agg #[.int .u8 c.k, .int .i64 c.s0, .int .i64 c.p0, .int .i64 c.s1, .int .i64 c.p1, .int .i64 c.s2, .int .i64 c.p2, .int .i64 c.s3, .int .i64 c.p3, .int .i64 c.c0, .int .i64 c.c1]] ((wr.alloc (.cells #[.int .i64 (i : Nat)] 3)).alloc (.cells #[.int .u8 c.k, .int .i64 c.s0, .int .i64 c.p0, .int .i64 c.s1, .int .i64 c.p1, .int .i64 c.s2, .int .i64 c.p2, .int .i64 c.s3, .int .i64 c.p3, .int .i64 c.c0, .int .i64 c.c1] 48)) fun e w' => e = .returned (.bool (rightT c)) ∧ Below ((wr.alloc (.cells #[.int .i64 (i : Nat)] 3)).alloc (.cells #[.int .u8 c.k, .int .i64 c.s0, .int .i64 c.p0, .int .i64 c.s1, .int .i64 c.p1, .int .i64 c.s2, .int .i64 c.p2, .int .i64 c.s3, .int .i64 c.p3, .int .i64 c.c0, .int .i64 c.c1] 48)).heap.size ((wr.alloc (.cells #[.int .i64 (i : Nat)] 3)).alloc (.cells #[.int .u8 c.k, .int .i64 c.s0, .int .i64 c.p0, .int .i64 c.s1, .int .i64 c.p1, .int .i64 c.s2, .int .i64 c.p2, .int .i64 c.s3, .int .i64 c.p3, .int .i64 c.c0, .int .i64 c.c1] 48)) w' := by
      have h := right_any c.k c.S c.P c.C hk.1 hk.2 ((wr.alloc (.cells #[.int .i64 (i : Nat)] 3)).alloc (.cells #[.int .u8 c.k, .int .i64 c.s0, .int .i64 c.p0, .int .i64 c.s1, .int .i64 c.p1, .int .i64 c.s2, .int .i64 c.p2, .int .i64 c.s3, .int .i64 c.p3, .int .i64 c.c0, .int .i64 c.c1] 48)) (HKE.out.1.below (bchain (bchain HX.out.1 HM.out.1) (bchain bself bself)))
      rw [rightT_eq, secV_enc] at h
      exact h
    have hsf := secFine_eq hc
    obtain ⟨q, hq⟩ : ∃ q, q = rightT c := ⟨_, rfl⟩
    rw [← hq] at hright hsf
    have HRT := Lib.hid hright
    have HSF := Lib.hid hsf
    clear hright hsf hq hrow hk hc
    go_wp2_with fail
    (with_reducible refine HRT.out.mono ?_)
    rintro e w1 ⟨rfl, b1⟩
    have hB1 : Below X.heap.size X w1 := bchain HM.out.1 (bchain (bchain bself bself) b1)
    have hM1 := (HM.out.2.1.below (bchain bself bself)).below b1
    have hc3 : w1.cell? ⟨wr.heap.size, 0, none⟩ = some (.int .i64 (i : Nat)) := (b1.cell (p := ⟨wr.heap.size, 0, none⟩) (by simp only [World.size_alloc]; omega)).trans (by simp [go_sem])
    have ltT : w.heap.size + 1 < X.heap.size := by rw [HX.out.2.2.2.2]; omega
    have eT : w1.cell? ⟨w.heap.size + 1, 0, none⟩ = some (.bool false) := (hB1.cell (p := ⟨w.heap.size + 1, 0, none⟩) ltT).trans HX.out.2.2.1
    have fT : w1.frozen? ⟨w.heap.size + 1, 0, none⟩ = false := (hB1.frozen (p := ⟨w.heap.size + 1, 0, none⟩) ltT).trans HX.out.2.2.2.1
    have H1 := Lib.hid (⟨hB1, hM1⟩ : _ ∧ _)
    clear b1 hB1 hM1 k0 k1 k2 k3 k4 k5 k6 k7 k8 k9 k10
    cases q with
    | false =>
      obtain rfl : r = false := HR.out.2.1 i hlt (by rw [HSF.out]; rfl)
      clear hc3
      go_wp2_with fail
      have hw : Writes (fun g => g = w.heap.size + 1) w1 (w1.setCell ⟨w.heap.size + 1, 0, none⟩ (.bool false)) := (Writes.refl (fun g => g = w.heap.size + 1) _).setCell (A := fun g => g = w.heap.size + 1) (p := ⟨w.heap.size + 1, 0, none⟩) rfl _
      have hbw : Below w.heap.size w (w1.setCell ⟨w.heap.size + 1, 0, none⟩ (.bool false)) := hw.below (bchain HX.out.1 H1.out.1) (Nat.le_trans HX.out.1.size H1.out.1.size) (by rintro b rfl; omega)
      refine ⟨⟨_, H1.out.2.writes hw (by rintro g rfl; exact ⟨_, _, eT⟩)⟩, fun w' hb hk => ⟨.bool false, ?_, rfl, hbw.trans hb⟩⟩
      have e1 := cells_kept hk (b := w.heap.size + 1) (o := 0) (v := .bool false) (by simp [go_sem, eT])
      simp [results, Tryd.results54, go_sem, e1]
    | true =>
      have hbx := HX.out.2.1.below H1.out.1
      obtain ⟨c0, c1, c2, c3, c4, c5, c6, c7, c8, c9, c10⟩ := hbx.cells
      dsimp only at c0 c1 c2 c3
      have lg := hbx.1
      have hjp := jports_fn L ⟨some ⟨b, off, none⟩, a1, a2, a3, p0, p1, p2, p3⟩ (i : Nat) w1
      unfold Lay.val at hjp
      have HJP := Lib.hid hjp
      have HET := Lib.hid (⟨eT, fT, hc3⟩ : _ ∧ _ ∧ _)
      clear hjp hbx eT fT
      go_wp2_with fail
      (with_reducible refine HJP.out.mono ?_)
      rintro e w2 ⟨rfl, rfl⟩
      go_wp2_with fail
      clear c0 c1 c2 c3 c4 c5 c6 c7 c8 c9 c10 hc3 lg
      have hBV : Below w1.heap.size w1 ((w1.alloc (.cells (L.cells ⟨some ⟨b, off, none⟩, a1, a2, a3, p0, p1, p2, p3⟩).toArray 29)).alloc (.cells #[.int .i64 (i : Nat)] 3)) := bchain bself bself
      have hbV : BoxL ((w1.alloc (.cells (L.cells ⟨some ⟨b, off, none⟩, a1, a2, a3, p0, p1, p2, p3⟩).toArray 29)).alloc (.cells #[.int .i64 (i : Nat)] 3)) w1.heap.size L ⟨some ⟨b, off, none⟩, a1, a2, a3, p0, p1, p2, p3⟩ := (BoxL.make _ rfl).below bself
      have csV : ((w1.alloc (.cells (L.cells ⟨some ⟨b, off, none⟩, a1, a2, a3, p0, p1, p2, p3⟩).toArray 29)).alloc (.cells #[.int .i64 (i : Nat)] 3)).cell? ⟨w1.heap.size + 1, 0, none⟩ = some (.int .i64 (i : Nat)) := by simp [go_sem]
      generalize ((w1.alloc (.cells (L.cells ⟨some ⟨b, off, none⟩, a1, a2, a3, p0, p1, p2, p3⟩).toArray 29)).alloc (.cells #[.int .i64 (i : Nat)] 3)) = V at hBV hbV csV ⊢
      have hXV := bchain H1.out.1 hBV
      have hLV := HL.out.below (bchain HX.out.1 hXV)
      have hKV := HKE.out.1.below (bchain HX.out.1 hXV)
      have hEV := HKE.out.2.below (bchain HX.out.1 hXV)
      have hMV := H1.out.2.below hBV
      have ltV : w.heap.size + 1 < V.heap.size := Nat.lt_of_lt_of_le ltT hXV.size
      have lwV : w.heap.size ≤ V.heap.size := Nat.le_of_lt (Nat.lt_of_succ_lt ltV)
      have eTV : V.cell? ⟨w.heap.size + 1, 0, none⟩ = some (.bool false) := (hXV.cell (p := ⟨w.heap.size + 1, 0, none⟩) ltT).trans HX.out.2.2.1
      have fTV : V.frozen? ⟨w.heap.size + 1, 0, none⟩ = false := (hXV.frozen (p := ⟨w.heap.size + 1, 0, none⟩) ltT).trans HX.out.2.2.2.1
      have e3V : V.cell? ⟨wr.heap.size, 0, none⟩ = some (.int .i64 (i : Nat)) := (hBV.cell (p := ⟨wr.heap.size, 0, none⟩) (World.block_lt_of_cell? _ _ HET.out.2.2)).trans HET.out.2.2
      have l3V : wr.heap.size < V.heap.size := World.block_lt_of_cell? _ _ e3V
      have hBXV := HX.out.2.1.below hXV
      have HV := Lib.hid (⟨hLV, hKV, hEV, hBXV, e3V, eTV, fTV⟩ : _ ∧ _ ∧ _ ∧ _ ∧ _ ∧ _ ∧ _)
      have HMV := Lib.hid (⟨hXV, hMV⟩ : _ ∧ _)
      have HSQ := Lib.hid (jports_stops (w1.heap.size + 1) w1.heap.size (i : Nat) L ⟨some ⟨b, off, none⟩, a1, a2, a3, p0, p1, p2, p3⟩ V hLV hbV hKV hEV csV)
      clear hBV hbV csV hXV hLV hKV hEV hMV eTV fTV e3V hBXV HET H1
      refine wp_range_x (α := Nat) (gf := 81) (lb := #[.pointer (some ⟨w1.heap.size + 1, 0, none⟩), .pointer (some ⟨w1.heap.size, 0, none⟩)]) (encs := pjV L (i : Nat)) rfl (enters_of Tryd.func81 (by kernel_rfl) rfl) (fun g => g = w.heap.size + 1) (by rintro g rfl; exact ltV) HSQ.out (fun _ => rfl)
        (fun pre => ∀ j ∈ pre, joinB L (i : Nat) j = true) (JX L i (w.heap.size + 1)) ?hix (fun _ h => by cases h)
        (JAx L (i : Nat) (fun b5 b6 j => #[.agg #[.slice (some ⟨b, off, none⟩) L.secs.length p0, .slice a1 L.sigs.length p1, .slice a2 L.exits.length p2, .slice a3 L.flanks.length p3, .int .i64 L.t0, .int .i64 L.t1, .int .i64 L.t2, .int .i64 L.t3, .int .i64 L.t4, .int .i64 L.t5, .int .i64 L.t6], .pointer (some ⟨w.heap.size, 0, none⟩), .pointer (some ⟨w.heap.size + 1, 0, none⟩), .pointer (some ⟨wr.heap.size, 0, none⟩), .pointer (some ⟨wr.heap.size + 1, 0, none⟩), .pointer (some ⟨b5, 0, none⟩), .pointer (some ⟨b6, 0, none⟩), .pointer (some ⟨w.heap.size, 0, none⟩), .slice (some ⟨b, off, none⟩) L.secs.length p0, .int .i64 L.secs.length, .bool false, .pointer (some ⟨w.heap.size, 0, none⟩), .slice (some ⟨b, off, none⟩) L.secs.length p0, .int .i64 L.secs.length, .int .i64 (i : Nat), .bool true, .int .i64 (i : Nat), .pointer (some ⟨b, off + i * 11, none⟩), .agg #[.int .u8 c.k, .int .i64 c.s0, .int .i64 c.p0, .int .i64 c.s1, .int .i64 c.p1, .int .i64 c.s2, .int .i64 c.p2, .int .i64 c.s3, .int .i64 c.p3, .int .i64 c.c0, .int .i64 c.c1], .agg #[.int .u8 c.k, .int .i64 c.s0, .int .i64 c.p0, .int .i64 c.s1, .int .i64 c.p1, .int .i64 c.s2, .int .i64 c.p2, .int .i64 c.s3, .int .i64 c.p3, .int .i64 c.c0, .int .i64 c.c1], .bool true, .bool false, .agg #[.slice (some ⟨b, off, none⟩) L.secs.length p0, .slice a1 L.sigs.length p1, .slice a2 L.exits.length p2, .slice a3 L.flanks.length p3, .int .i64 L.t0, .int .i64 L.t1, .int .i64 L.t2, .int .i64 L.t3, .int .i64 L.t4, .int .i64 L.t5, .int .i64 L.t6], .int .i64 (i : Nat), .func (.func 81) #[] #[.pointer (some ⟨w1.heap.size + 1, 0, none⟩), .pointer (some ⟨w1.heap.size, 0, none⟩)], .agg #[.int .i64 (i : Nat), .int .i64 (j : Nat)], .agg #[.int .i64 (beyL L (i : Nat) j).s, .int .i64 (beyL L (i : Nat) j).p], undef, undef, undef, undef, undef, undef, undef, undef, undef, undef, undef, undef, undef, undef, undef, undef, undef, undef, undef, undef, undef, undef, u49])) (fun _ _ _ _ h k hs => h.same k hs) ?assign ?body ?done ?stop
      case hix =>
        rintro cd s W W' ⟨h1, h2, h3⟩ hs
        exact ⟨h1, h2, (World.cell?_of_block (w := W) (a := ⟨w.heap.size + 1, 0, none⟩) (hs _ rfl)).trans h3⟩
      case assign =>
        intro l j W Kn hb hK
        simp only [pjV]
        gi_wp2
        refine hK _ _ (bchain bself bself) ⟨W.heap.size, W.heap.size + 1, rfl, ?_, ?_, ?_, ?_, ?_, ?_⟩
        · simp only [World.size_alloc]; omega
        · simp only [World.size_alloc]; omega
        · simp [go_sem]
        · simp [go_sem]
        · simp [go_sem]
        · simp [go_sem]
      case body =>
        rintro l pre j a' W hb hi ⟨b5, b6, rfl, l5, l6, x0, x1, y0, y1⟩ hlen
        have HI := Lib.hid hi
        have HLW := Lib.hid (⟨HV.out.1.below hb, HV.out.2.1.below hb, HV.out.2.2.1.below hb⟩ : _ ∧ _ ∧ _)
        have HBX := Lib.hid (HV.out.2.2.2.1.below hb)
        have HTW := Lib.hid (⟨(hb.cell (p := ⟨w.heap.size + 1, 0, none⟩) ltV).trans HV.out.2.2.2.2.2.1, (hb.frozen (p := ⟨w.heap.size + 1, 0, none⟩) ltV).trans HV.out.2.2.2.2.2.2, Nat.lt_of_lt_of_le ltV hb.size⟩ : _ ∧ _ ∧ _)
        have x3' := (hb.cell (p := ⟨wr.heap.size, 0, none⟩) l3V).trans HV.out.2.2.2.2.1
        have l3W := Nat.lt_of_lt_of_le l3V hb.size
        replace x0 : ∀ V', ClB W V' → V'.cell? ⟨b5, 0, none⟩ = some (.int .i64 (i : Nat)) := fun V' h => (h.cell (p := ⟨b5, 0, none⟩) l5).trans x0
        replace x1 : ∀ V', ClB W V' → V'.cell? ⟨b5, 1, none⟩ = some (.int .i64 (j : Nat)) := fun V' h => (h.cell (p := ⟨b5, 1, none⟩) l5).trans x1
        replace y0 : ∀ V', ClB W V' → V'.cell? ⟨b6, 0, none⟩ = some (.int .i64 (beyL L (i : Nat) j).s) := fun V' h => (h.cell (p := ⟨b6, 0, none⟩) l6).trans y0
        replace y1 : ∀ V', ClB W V' → V'.cell? ⟨b6, 1, none⟩ = some (.int .i64 (beyL L (i : Nat) j).p) := fun V' h => (h.cell (p := ⟨b6, 1, none⟩) l6).trans y1
        have x3 : ∀ V', ClB W V' → V'.cell? ⟨wr.heap.size, 0, none⟩ = some (.int .i64 (i : Nat)) := fun V' h => (h.cell (p := ⟨wr.heap.size, 0, none⟩) l3W).trans x3'
        have e0 : ∀ V', ClB W V' → V'.cell? ⟨1, 0, none⟩ = some (.int .i64 (-1)) := fun V' h => (HLW.out.2.2.below h).c0
        have e1 : ∀ V', ClB W V' → V'.cell? ⟨1, 1, none⟩ = some (.int .i64 0) := fun V' h => (HLW.out.2.2.below h).c1
        have hjb := joinB_eq L (i : Nat) j
        clear x3' hi hb
        refine wpIn_block ?_
        refine wpIn_seq_k fun K1 hK1 => ?_
        have HK1 := Lib.hid hK1
        clear hK1
        generalize beyL L (i : Nat) j = z at y0 y1 hjb ⊢
        obtain ⟨zs, zp⟩ := z
        dsimp only at y0 y1 hjb ⊢
        have HH0 := fun V' (h : ClB W V') => hasJ_any L ⟨some ⟨b, off, none⟩, a1, a2, a3, p0, p1, p2, p3⟩ zs zp V' (HLW.out.1.below h) (HLW.out.2.1.below h)
        have HY0 := fun V' (h : ClB W V') => beyJ_any L ⟨some ⟨b, off, none⟩, a1, a2, a3, p0, p1, p2, p3⟩ zs zp V' (HLW.out.1.below h) (HLW.out.2.1.below h) (HLW.out.2.2.below h)
        by_cases hE : zs = -1 ∧ zp = 0
        · obtain ⟨rfl, rfl⟩ := hE
          have HJB := Lib.hid (show joinB L (i : Nat) j = true by rw [hjb]; simp [endP])
          clear HH0 HY0 hjb
          have hqE : ∀ V', (Op.equalIn 10000 37 (.agg #[.int .i64 (-1), .int .i64 0]) (.agg #[.int .i64 (-1), .int .i64 0])).run Tryd.prog V' = .ok true V' := fun V' => by rw [eqQ_portI]; simp
          focus
              refine wpIn_region_rel_below (.inr ⟨l, rfl⟩) [([(6, none)], none), ([], none), ([(27, some 1), (28, some 0)], none), ([(29, some 0)], none), ([(6, none), (30, some 0)], some (30, true)), ([(31, some 0), (30, some 1)], some (30, true)), ([(3, none), (30, some 2)], some (30, true)), ([(32, some 1), (33, some 0), (30, some 3)], some (30, true)), ([(34, some 0), (30, some 4)], some (30, true)), ([(1, none), (35, some 0)], some (35, false)), ([(6, none), (35, some 1)], some (35, false)), ([(36, some 1), (37, some 0), (35, some 2)], some (35, false)), ([(38, some 0), (35, some 3)], some (35, false)), ([(35, some 4), (39, some 0), (30, some 9)], some (30, true)), ([(40, some 0), (30, some 10)], some (30, true)), ([(1, none), (41, some 0)], some (41, false)), ([(6, none), (41, some 1)], some (41, false)), ([(42, some 1), (43, some 0), (41, some 2)], some (41, false)), ([(5, none), (41, some 3)], some (41, false)), ([(44, some 1), (45, some 0), (41, some 4)], some (41, false)), ([(41, some 5), (46, some 0), (30, some 16)], some (30, true)), ([(30, some 17), (47, some 0)], none)] [(0, 48)] (by kernel_rfl) (by kernel_rfl) (by kernel_rfl) ?_
              refine ob_det (c := .agg #[.int .i64 (-1), .int .i64 0]) ?_ ?_
              · intro ρ W hk hC
                simp only [seen, obOp]
                rintro h6
                replace h6 : ρ (.tmp 6) = .pointer (some ⟨b6, 0, none⟩) := h6.trans rfl
                exact rel_value (by simp [go_sem, h6, y0 W hC, y1 W hC]) hC
              refine ob_det (c := .agg #[.int .i64 (-1), .int .i64 0]) ?_ ?_
              · intro ρ W hk hC
                simp only [seen, obOp]
                exact rel_value (by simp [go_sem, hk.global, e0 W hC, e1 W hC]) hC
              refine ob_det (c := .bool false) ?_ ?_
              · intro ρ W hk hC
                simp only [seen, obOp, List.getD_cons_zero, List.getD_cons_succ]
                rintro h27 h28
                exact rel_value (by simp [go_sem, h27, h28, hqE]) hC
              refine ob_det (c := .bool false) ?_ ?_
              · intro ρ W hk hC
                simp only [seen, obOp, List.getD_cons_zero]
                rintro h29
                exact rel_value (by simp [go_sem, h29]) hC
              refine ob_det (c := undef) ?_ ?_
              · intro ρ W hk hC
                simp only [seen, obOp, List.getD_cons_zero]
                rintro h6 h30
                replace h6 : ρ (.tmp 6) = .pointer (some ⟨b6, 0, none⟩) := h6.trans rfl
                exact ⟨fun h => absurd (h.symm.trans h30) (by first | simp | simp [undef]), fun _ => by trivial⟩
              refine ob_det (c := undef) ?_ ?_
              · intro ρ W hk hC
                simp only [seen, obOp, List.getD_cons_zero, List.getD_cons_succ]
                rintro h31 h30
                exact ⟨fun h => absurd (h.symm.trans h30) (by first | simp | simp [undef]), fun _ => by trivial⟩
              refine ob_det (c := undef) ?_ ?_
              · intro ρ W hk hC
                simp only [seen, obOp, List.getD_cons_zero, List.getD_cons_succ]
                rintro h3 h30
                replace h3 : ρ (.tmp 3) = .pointer (some ⟨wr.heap.size, 0, none⟩) := h3.trans rfl
                exact ⟨fun h => absurd (h.symm.trans h30) (by first | simp | simp [undef]), fun _ => by trivial⟩
              refine ob_det (c := undef) ?_ ?_
              · intro ρ W hk hC
                simp only [seen, obOp, List.getD_cons_zero, List.getD_cons_succ]
                rintro h32 h33 h30
                exact ⟨fun h => absurd (h.symm.trans h30) (by first | simp | simp [undef]), fun _ => by trivial⟩
              refine ob_det (c := undef) ?_ ?_
              · intro ρ W hk hC
                simp only [seen, obOp, List.getD_cons_zero, List.getD_cons_succ]
                rintro h34 h30
                exact ⟨fun h => absurd (h.symm.trans h30) (by first | simp | simp [undef]), fun _ => by trivial⟩
              refine ob_det (c := undef) ?_ ?_
              · intro ρ W hk hC
                simp only [seen, obOp, List.getD_cons_zero]
                rintro h1 h35
                replace h1 : ρ (.tmp 1) = .pointer (some ⟨w.heap.size, 0, none⟩) := h1.trans rfl
                exact ⟨fun h => absurd (h.symm.trans h35) (by first | simp | simp [undef]), fun _ => by trivial⟩
              refine ob_det (c := undef) ?_ ?_
              · intro ρ W hk hC
                simp only [seen, obOp, List.getD_cons_zero, List.getD_cons_succ]
                rintro h6 h35
                replace h6 : ρ (.tmp 6) = .pointer (some ⟨b6, 0, none⟩) := h6.trans rfl
                exact ⟨fun h => absurd (h.symm.trans h35) (by first | simp | simp [undef]), fun _ => by trivial⟩
              refine ob_det (c := undef) ?_ ?_
              · intro ρ W hk hC
                simp only [seen, obOp, List.getD_cons_zero, List.getD_cons_succ]
                rintro h36 h37 h35
                exact ⟨fun h => absurd (h.symm.trans h35) (by first | simp | simp [undef]), fun _ => by trivial⟩
              refine ob_det (c := undef) ?_ ?_
              · intro ρ W hk hC
                simp only [seen, obOp, List.getD_cons_zero, List.getD_cons_succ]
                rintro h38 h35
                exact ⟨fun h => absurd (h.symm.trans h35) (by first | simp | simp [undef]), fun _ => by trivial⟩
              refine ob_det (c := undef) ?_ ?_
              · intro ρ W hk hC
                simp only [seen, obOp, List.getD_cons_zero, List.getD_cons_succ]
                rintro h35 h39 h30
                exact ⟨fun h => absurd (h.symm.trans h30) (by first | simp | simp [undef]), fun _ => by trivial⟩
              refine ob_det (c := undef) ?_ ?_
              · intro ρ W hk hC
                simp only [seen, obOp, List.getD_cons_zero, List.getD_cons_succ]
                rintro h40 h30
                exact ⟨fun h => absurd (h.symm.trans h30) (by first | simp | simp [undef]), fun _ => by trivial⟩
              refine ob_det (c := undef) ?_ ?_
              · intro ρ W hk hC
                simp only [seen, obOp, List.getD_cons_zero]
                rintro h1 h41
                replace h1 : ρ (.tmp 1) = .pointer (some ⟨w.heap.size, 0, none⟩) := h1.trans rfl
                exact ⟨fun h => absurd (h.symm.trans h41) (by first | simp | simp [undef]), fun _ => by trivial⟩
              refine ob_det (c := undef) ?_ ?_
              · intro ρ W hk hC
                simp only [seen, obOp, List.getD_cons_zero, List.getD_cons_succ]
                rintro h6 h41
                replace h6 : ρ (.tmp 6) = .pointer (some ⟨b6, 0, none⟩) := h6.trans rfl
                exact ⟨fun h => absurd (h.symm.trans h41) (by first | simp | simp [undef]), fun _ => by trivial⟩
              refine ob_det (c := undef) ?_ ?_
              · intro ρ W hk hC
                simp only [seen, obOp, List.getD_cons_zero, List.getD_cons_succ]
                rintro h42 h43 h41
                exact ⟨fun h => absurd (h.symm.trans h41) (by first | simp | simp [undef]), fun _ => by trivial⟩
              refine ob_det (c := undef) ?_ ?_
              · intro ρ W hk hC
                simp only [seen, obOp, List.getD_cons_zero, List.getD_cons_succ]
                rintro h5 h41
                replace h5 : ρ (.tmp 5) = .pointer (some ⟨b5, 0, none⟩) := h5.trans rfl
                exact ⟨fun h => absurd (h.symm.trans h41) (by first | simp | simp [undef]), fun _ => by trivial⟩
              refine ob_det (c := undef) ?_ ?_
              · intro ρ W hk hC
                simp only [seen, obOp, List.getD_cons_zero, List.getD_cons_succ]
                rintro h44 h45 h41
                exact ⟨fun h => absurd (h.symm.trans h41) (by first | simp | simp [undef]), fun _ => by trivial⟩
              refine ob_det (c := undef) ?_ ?_
              · intro ρ W hk hC
                simp only [seen, obOp, List.getD_cons_zero, List.getD_cons_succ]
                rintro h41 h46 h30
                exact ⟨fun h => absurd (h.symm.trans h30) (by first | simp | simp [undef]), fun _ => by trivial⟩
              refine ob_det (c := .bool false) ?_ ?_
              · intro ρ W hk hC
                simp only [seen, obOp, List.getD_cons_zero, List.getD_cons_succ]
                rintro h30 h47
                exact rel_value (by simp [go_sem, h30, h47, hk.const]) hC
              intro vs w5 hC5
              simp only [endSeen, List.getD_cons_zero]
              intro h48
              simp only [writeAll, List.setIfInBounds_toArray, List.set_cons_zero, List.set_cons_succ, h48]
              refine HK1.out _ _ ?_
              gi_wp2
              refine ⟨hC5, fun t ht => ?_⟩
              rcases List.mem_append.1 ht with ht | ht
              · exact HI.out t ht
              · rw [List.mem_singleton.1 ht]; exact HJB.out
        have hqE : ∀ V', (Op.equalIn 10000 37 (.agg #[.int .i64 zs, .int .i64 zp]) (.agg #[.int .i64 (-1), .int .i64 0])).run Tryd.prog V' = .ok false V' := fun V' => by rw [eqQ_portI, decide_eq_false hE]
        have hnE : decide ((⟨zs, zp⟩ : Prt) = endP) = false := decide_eq_false (fun h => hE (by cases h; exact ⟨rfl, rfl⟩))
        rw [hnE, Bool.false_or] at hjb
        clear hE hnE
        unfold Lay.val at HH0 HY0
        by_cases hsi : zs = (i : Nat)
        · subst hsi
          have HJB := Lib.hid (show joinB L (i : Nat) j = false by rw [hjb]; simp)
          clear HH0 HY0 hjb
          focus
              refine wpIn_region_rel_below (.inr ⟨l, rfl⟩) [([(6, none)], none), ([], none), ([(27, some 1), (28, some 0)], none), ([(29, some 0)], none), ([(6, none), (30, some 0)], some (30, true)), ([(31, some 0), (30, some 1)], some (30, true)), ([(3, none), (30, some 2)], some (30, true)), ([(32, some 1), (33, some 0), (30, some 3)], some (30, true)), ([(34, some 0), (30, some 4)], some (30, true)), ([(1, none), (35, some 0)], some (35, false)), ([(6, none), (35, some 1)], some (35, false)), ([(36, some 1), (37, some 0), (35, some 2)], some (35, false)), ([(38, some 0), (35, some 3)], some (35, false)), ([(35, some 4), (39, some 0), (30, some 9)], some (30, true)), ([(40, some 0), (30, some 10)], some (30, true)), ([(1, none), (41, some 0)], some (41, false)), ([(6, none), (41, some 1)], some (41, false)), ([(42, some 1), (43, some 0), (41, some 2)], some (41, false)), ([(5, none), (41, some 3)], some (41, false)), ([(44, some 1), (45, some 0), (41, some 4)], some (41, false)), ([(41, some 5), (46, some 0), (30, some 16)], some (30, true)), ([(30, some 17), (47, some 0)], none)] [(0, 48)] (by kernel_rfl) (by kernel_rfl) (by kernel_rfl) ?_
              refine ob_det (c := .agg #[.int .i64 (i : Nat), .int .i64 zp]) ?_ ?_
              · intro ρ W hk hC
                simp only [seen, obOp]
                rintro h6
                replace h6 : ρ (.tmp 6) = .pointer (some ⟨b6, 0, none⟩) := h6.trans rfl
                exact rel_value (by simp [go_sem, h6, y0 W hC, y1 W hC]) hC
              refine ob_det (c := .agg #[.int .i64 (-1), .int .i64 0]) ?_ ?_
              · intro ρ W hk hC
                simp only [seen, obOp]
                exact rel_value (by simp [go_sem, hk.global, e0 W hC, e1 W hC]) hC
              refine ob_det (c := .bool true) ?_ ?_
              · intro ρ W hk hC
                simp only [seen, obOp, List.getD_cons_zero, List.getD_cons_succ]
                rintro h27 h28
                exact rel_value (by simp [go_sem, h27, h28, hqE]) hC
              refine ob_det (c := .bool true) ?_ ?_
              · intro ρ W hk hC
                simp only [seen, obOp, List.getD_cons_zero]
                rintro h29
                exact rel_value (by simp [go_sem, h29]) hC
              refine ob_det (c := .pointer (some ⟨b6, 0, none⟩)) ?_ ?_
              · intro ρ W hk hC
                simp only [seen, obOp, List.getD_cons_zero]
                rintro h6 h30
                replace h6 : ρ (.tmp 6) = .pointer (some ⟨b6, 0, none⟩) := h6.trans rfl
                refine ⟨fun _ => ?_, fun hn => absurd h30 hn⟩
                exact rel_value (by simp [go_sem, h6]) hC
              refine ob_det (c := .int .i64 (i : Nat)) ?_ ?_
              · intro ρ W hk hC
                simp only [seen, obOp, List.getD_cons_zero, List.getD_cons_succ]
                rintro h31 h30
                refine ⟨fun _ => ?_, fun hn => absurd h30 hn⟩
                exact rel_value (by simp [go_sem, h31, y0 W hC]) hC
              refine ob_det (c := .int .i64 (i : Nat)) ?_ ?_
              · intro ρ W hk hC
                simp only [seen, obOp, List.getD_cons_zero, List.getD_cons_succ]
                rintro h3 h30
                replace h3 : ρ (.tmp 3) = .pointer (some ⟨wr.heap.size, 0, none⟩) := h3.trans rfl
                refine ⟨fun _ => ?_, fun hn => absurd h30 hn⟩
                exact rel_value (by simp [go_sem, h3, x3 W hC]) hC
              refine ob_det (c := .bool true) ?_ ?_
              · intro ρ W hk hC
                simp only [seen, obOp, List.getD_cons_zero, List.getD_cons_succ]
                rintro h32 h33 h30
                refine ⟨fun _ => ?_, fun hn => absurd h30 hn⟩
                exact rel_value (by simp [go_sem, h32, h33]) hC
              refine ob_det (c := .bool true) ?_ ?_
              · intro ρ W hk hC
                simp only [seen, obOp, List.getD_cons_zero, List.getD_cons_succ]
                rintro h34 h30
                refine ⟨fun _ => ?_, fun hn => absurd h30 hn⟩
                exact rel_value (by simp [go_sem, h34]) hC
              refine ob_det (c := undef) ?_ ?_
              · intro ρ W hk hC
                simp only [seen, obOp, List.getD_cons_zero]
                rintro h1 h35
                replace h1 : ρ (.tmp 1) = .pointer (some ⟨w.heap.size, 0, none⟩) := h1.trans rfl
                exact ⟨fun h => absurd (h.symm.trans h35) (by first | simp | simp [undef]), fun _ => by trivial⟩
              refine ob_det (c := undef) ?_ ?_
              · intro ρ W hk hC
                simp only [seen, obOp, List.getD_cons_zero, List.getD_cons_succ]
                rintro h6 h35
                replace h6 : ρ (.tmp 6) = .pointer (some ⟨b6, 0, none⟩) := h6.trans rfl
                exact ⟨fun h => absurd (h.symm.trans h35) (by first | simp | simp [undef]), fun _ => by trivial⟩
              refine ob_det (c := undef) ?_ ?_
              · intro ρ W hk hC
                simp only [seen, obOp, List.getD_cons_zero, List.getD_cons_succ]
                rintro h36 h37 h35
                exact ⟨fun h => absurd (h.symm.trans h35) (by first | simp | simp [undef]), fun _ => by trivial⟩
              refine ob_det (c := undef) ?_ ?_
              · intro ρ W hk hC
                simp only [seen, obOp, List.getD_cons_zero, List.getD_cons_succ]
                rintro h38 h35
                exact ⟨fun h => absurd (h.symm.trans h35) (by first | simp | simp [undef]), fun _ => by trivial⟩
              refine ob_det (c := .bool true) ?_ ?_
              · intro ρ W hk hC
                simp only [seen, obOp, List.getD_cons_zero, List.getD_cons_succ]
                rintro h35 h39 h30
                refine ⟨fun _ => ?_, fun hn => absurd h30 hn⟩
                exact rel_value (by simp [go_sem, h35, h39, hk.const]) hC
              refine ob_det (c := .bool true) ?_ ?_
              · intro ρ W hk hC
                simp only [seen, obOp, List.getD_cons_zero, List.getD_cons_succ]
                rintro h40 h30
                refine ⟨fun _ => ?_, fun hn => absurd h30 hn⟩
                exact rel_value (by simp [go_sem, h40]) hC
              refine ob_det (c := undef) ?_ ?_
              · intro ρ W hk hC
                simp only [seen, obOp, List.getD_cons_zero]
                rintro h1 h41
                replace h1 : ρ (.tmp 1) = .pointer (some ⟨w.heap.size, 0, none⟩) := h1.trans rfl
                exact ⟨fun h => absurd (h.symm.trans h41) (by first | simp | simp [undef]), fun _ => by trivial⟩
              refine ob_det (c := undef) ?_ ?_
              · intro ρ W hk hC
                simp only [seen, obOp, List.getD_cons_zero, List.getD_cons_succ]
                rintro h6 h41
                replace h6 : ρ (.tmp 6) = .pointer (some ⟨b6, 0, none⟩) := h6.trans rfl
                exact ⟨fun h => absurd (h.symm.trans h41) (by first | simp | simp [undef]), fun _ => by trivial⟩
              refine ob_det (c := undef) ?_ ?_
              · intro ρ W hk hC
                simp only [seen, obOp, List.getD_cons_zero, List.getD_cons_succ]
                rintro h42 h43 h41
                exact ⟨fun h => absurd (h.symm.trans h41) (by first | simp | simp [undef]), fun _ => by trivial⟩
              refine ob_det (c := undef) ?_ ?_
              · intro ρ W hk hC
                simp only [seen, obOp, List.getD_cons_zero, List.getD_cons_succ]
                rintro h5 h41
                replace h5 : ρ (.tmp 5) = .pointer (some ⟨b5, 0, none⟩) := h5.trans rfl
                exact ⟨fun h => absurd (h.symm.trans h41) (by first | simp | simp [undef]), fun _ => by trivial⟩
              refine ob_det (c := undef) ?_ ?_
              · intro ρ W hk hC
                simp only [seen, obOp, List.getD_cons_zero, List.getD_cons_succ]
                rintro h44 h45 h41
                exact ⟨fun h => absurd (h.symm.trans h41) (by first | simp | simp [undef]), fun _ => by trivial⟩
              refine ob_det (c := .bool true) ?_ ?_
              · intro ρ W hk hC
                simp only [seen, obOp, List.getD_cons_zero, List.getD_cons_succ]
                rintro h41 h46 h30
                refine ⟨fun _ => ?_, fun hn => absurd h30 hn⟩
                exact rel_value (by simp [go_sem, h41, h46, hk.const]) hC
              refine ob_det (c := .bool true) ?_ ?_
              · intro ρ W hk hC
                simp only [seen, obOp, List.getD_cons_zero, List.getD_cons_succ]
                rintro h30 h47
                exact rel_value (by simp [go_sem, h30, h47, hk.const]) hC
              intro vs w5 hC5
              simp only [endSeen, List.getD_cons_zero]
              intro h48
              simp only [writeAll, List.setIfInBounds_toArray, List.set_cons_zero, List.set_cons_succ, h48]
              have eT5 := (hC5.cell (p := ⟨w.heap.size + 1, 0, none⟩) HTW.out.2.2).trans HTW.out.1
              have fT5 := (hC5.frozen (p := ⟨w.heap.size + 1, 0, none⟩) HTW.out.2.2).trans HTW.out.2.1
              refine HK1.out _ _ ?_
              gi_wp2
              exact ⟨(Writes.of_below (A := fun g => g = w.heap.size + 1) hC5).setCell (A := fun g => g = w.heap.size + 1) (p := ⟨w.heap.size + 1, 0, none⟩) rfl _, rfl, ⟨j, by simp, HJB.out⟩, by simp [go_sem, eT5]⟩
        rw [decide_eq_false hsi, Bool.not_false, Bool.true_and] at hjb
        cases hh : hasB L zs zp with
        | false =>
          rw [hh] at HH0 hjb
          have HH := Lib.hid HH0
          have HJB := Lib.hid (show joinB L (i : Nat) j = false by rw [hjb]; rfl)
          clear HH0 HY0 hjb hh
          focus
              refine wpIn_region_rel_below (.inr ⟨l, rfl⟩) [([(6, none)], none), ([], none), ([(27, some 1), (28, some 0)], none), ([(29, some 0)], none), ([(6, none), (30, some 0)], some (30, true)), ([(31, some 0), (30, some 1)], some (30, true)), ([(3, none), (30, some 2)], some (30, true)), ([(32, some 1), (33, some 0), (30, some 3)], some (30, true)), ([(34, some 0), (30, some 4)], some (30, true)), ([(1, none), (35, some 0)], some (35, false)), ([(6, none), (35, some 1)], some (35, false)), ([(36, some 1), (37, some 0), (35, some 2)], some (35, false)), ([(38, some 0), (35, some 3)], some (35, false)), ([(35, some 4), (39, some 0), (30, some 9)], some (30, true)), ([(40, some 0), (30, some 10)], some (30, true)), ([(1, none), (41, some 0)], some (41, false)), ([(6, none), (41, some 1)], some (41, false)), ([(42, some 1), (43, some 0), (41, some 2)], some (41, false)), ([(5, none), (41, some 3)], some (41, false)), ([(44, some 1), (45, some 0), (41, some 4)], some (41, false)), ([(41, some 5), (46, some 0), (30, some 16)], some (30, true)), ([(30, some 17), (47, some 0)], none)] [(0, 48)] (by kernel_rfl) (by kernel_rfl) (by kernel_rfl) ?_
              refine ob_det (c := .agg #[.int .i64 zs, .int .i64 zp]) ?_ ?_
              · intro ρ W hk hC
                simp only [seen, obOp]
                rintro h6
                replace h6 : ρ (.tmp 6) = .pointer (some ⟨b6, 0, none⟩) := h6.trans rfl
                exact rel_value (by simp [go_sem, h6, y0 W hC, y1 W hC]) hC
              refine ob_det (c := .agg #[.int .i64 (-1), .int .i64 0]) ?_ ?_
              · intro ρ W hk hC
                simp only [seen, obOp]
                exact rel_value (by simp [go_sem, hk.global, e0 W hC, e1 W hC]) hC
              refine ob_det (c := .bool true) ?_ ?_
              · intro ρ W hk hC
                simp only [seen, obOp, List.getD_cons_zero, List.getD_cons_succ]
                rintro h27 h28
                exact rel_value (by simp [go_sem, h27, h28, hqE]) hC
              refine ob_det (c := .bool true) ?_ ?_
              · intro ρ W hk hC
                simp only [seen, obOp, List.getD_cons_zero]
                rintro h29
                exact rel_value (by simp [go_sem, h29]) hC
              refine ob_det (c := .pointer (some ⟨b6, 0, none⟩)) ?_ ?_
              · intro ρ W hk hC
                simp only [seen, obOp, List.getD_cons_zero]
                rintro h6 h30
                replace h6 : ρ (.tmp 6) = .pointer (some ⟨b6, 0, none⟩) := h6.trans rfl
                refine ⟨fun _ => ?_, fun hn => absurd h30 hn⟩
                exact rel_value (by simp [go_sem, h6]) hC
              refine ob_det (c := .int .i64 zs) ?_ ?_
              · intro ρ W hk hC
                simp only [seen, obOp, List.getD_cons_zero, List.getD_cons_succ]
                rintro h31 h30
                refine ⟨fun _ => ?_, fun hn => absurd h30 hn⟩
                exact rel_value (by simp [go_sem, h31, y0 W hC]) hC
              refine ob_det (c := .int .i64 (i : Nat)) ?_ ?_
              · intro ρ W hk hC
                simp only [seen, obOp, List.getD_cons_zero, List.getD_cons_succ]
                rintro h3 h30
                replace h3 : ρ (.tmp 3) = .pointer (some ⟨wr.heap.size, 0, none⟩) := h3.trans rfl
                refine ⟨fun _ => ?_, fun hn => absurd h30 hn⟩
                exact rel_value (by simp [go_sem, h3, x3 W hC]) hC
              refine ob_det (c := .bool false) ?_ ?_
              · intro ρ W hk hC
                simp only [seen, obOp, List.getD_cons_zero, List.getD_cons_succ]
                rintro h32 h33 h30
                refine ⟨fun _ => ?_, fun hn => absurd h30 hn⟩
                exact rel_value (by simp [go_sem, h32, h33, hsi]) hC
              refine ob_det (c := .bool false) ?_ ?_
              · intro ρ W hk hC
                simp only [seen, obOp, List.getD_cons_zero, List.getD_cons_succ]
                rintro h34 h30
                refine ⟨fun _ => ?_, fun hn => absurd h30 hn⟩
                exact rel_value (by simp [go_sem, h34]) hC
              refine ob_det (c := .agg #[.slice (some ⟨b, off, none⟩) L.secs.length p0, .slice a1 L.sigs.length p1, .slice a2 L.exits.length p2, .slice a3 L.flanks.length p3, .int .i64 L.t0, .int .i64 L.t1, .int .i64 L.t2, .int .i64 L.t3, .int .i64 L.t4, .int .i64 L.t5, .int .i64 L.t6]) ?_ ?_
              · intro ρ W hk hC
                simp only [seen, obOp, List.getD_cons_zero]
                rintro h1 h35
                replace h1 : ρ (.tmp 1) = .pointer (some ⟨w.heap.size, 0, none⟩) := h1.trans rfl
                refine ⟨fun _ => ?_, fun hn => absurd h35 hn⟩
                exact rel_value (runLoad h1 (HBX.out.below hC)) hC
              refine ob_det (c := .agg #[.int .i64 zs, .int .i64 zp]) ?_ ?_
              · intro ρ W hk hC
                simp only [seen, obOp, List.getD_cons_zero, List.getD_cons_succ]
                rintro h6 h35
                replace h6 : ρ (.tmp 6) = .pointer (some ⟨b6, 0, none⟩) := h6.trans rfl
                refine ⟨fun _ => ?_, fun hn => absurd h35 hn⟩
                exact rel_value (by simp [go_sem, h6, y0 W hC, y1 W hC]) hC
              refine ob_det (c := .bool false) ?_ ?_
              · intro ρ W hk hC
                simp only [seen, obOp, List.getD_cons_zero, List.getD_cons_succ]
                rintro h36 h37 h35
                refine ⟨fun _ => ?_, fun hn => absurd h35 hn⟩
                exact rel_call (f := 78) (args := #[.agg #[.slice (some ⟨b, off, none⟩) L.secs.length p0, .slice a1 L.sigs.length p1, .slice a2 L.exits.length p2, .slice a3 L.flanks.length p3, .int .i64 L.t0, .int .i64 L.t1, .int .i64 L.t2, .int .i64 L.t3, .int .i64 L.t4, .int .i64 L.t5, .int .i64 L.t6], .agg #[.int .i64 zs, .int .i64 zp]]) (by simp [go_sem, h36, h37, hk.func]) hC (HH.out W hC)
              refine ob_det (c := .bool true) ?_ ?_
              · intro ρ W hk hC
                simp only [seen, obOp, List.getD_cons_zero, List.getD_cons_succ]
                rintro h38 h35
                refine ⟨fun _ => ?_, fun hn => absurd h35 hn⟩
                exact rel_value (by simp [go_sem, h38]) hC
              refine ob_det (c := .bool true) ?_ ?_
              · intro ρ W hk hC
                simp only [seen, obOp, List.getD_cons_zero, List.getD_cons_succ]
                rintro h35 h39 h30
                refine ⟨fun _ => ?_, fun hn => absurd h30 hn⟩
                exact rel_value (by simp [go_sem, h35, h39, hk.const]) hC
              refine ob_det (c := .bool true) ?_ ?_
              · intro ρ W hk hC
                simp only [seen, obOp, List.getD_cons_zero, List.getD_cons_succ]
                rintro h40 h30
                refine ⟨fun _ => ?_, fun hn => absurd h30 hn⟩
                exact rel_value (by simp [go_sem, h40]) hC
              refine ob_det (c := undef) ?_ ?_
              · intro ρ W hk hC
                simp only [seen, obOp, List.getD_cons_zero]
                rintro h1 h41
                replace h1 : ρ (.tmp 1) = .pointer (some ⟨w.heap.size, 0, none⟩) := h1.trans rfl
                exact ⟨fun h => absurd (h.symm.trans h41) (by first | simp | simp [undef]), fun _ => by trivial⟩
              refine ob_det (c := undef) ?_ ?_
              · intro ρ W hk hC
                simp only [seen, obOp, List.getD_cons_zero, List.getD_cons_succ]
                rintro h6 h41
                replace h6 : ρ (.tmp 6) = .pointer (some ⟨b6, 0, none⟩) := h6.trans rfl
                exact ⟨fun h => absurd (h.symm.trans h41) (by first | simp | simp [undef]), fun _ => by trivial⟩
              refine ob_det (c := undef) ?_ ?_
              · intro ρ W hk hC
                simp only [seen, obOp, List.getD_cons_zero, List.getD_cons_succ]
                rintro h42 h43 h41
                exact ⟨fun h => absurd (h.symm.trans h41) (by first | simp | simp [undef]), fun _ => by trivial⟩
              refine ob_det (c := undef) ?_ ?_
              · intro ρ W hk hC
                simp only [seen, obOp, List.getD_cons_zero, List.getD_cons_succ]
                rintro h5 h41
                replace h5 : ρ (.tmp 5) = .pointer (some ⟨b5, 0, none⟩) := h5.trans rfl
                exact ⟨fun h => absurd (h.symm.trans h41) (by first | simp | simp [undef]), fun _ => by trivial⟩
              refine ob_det (c := undef) ?_ ?_
              · intro ρ W hk hC
                simp only [seen, obOp, List.getD_cons_zero, List.getD_cons_succ]
                rintro h44 h45 h41
                exact ⟨fun h => absurd (h.symm.trans h41) (by first | simp | simp [undef]), fun _ => by trivial⟩
              refine ob_det (c := .bool true) ?_ ?_
              · intro ρ W hk hC
                simp only [seen, obOp, List.getD_cons_zero, List.getD_cons_succ]
                rintro h41 h46 h30
                refine ⟨fun _ => ?_, fun hn => absurd h30 hn⟩
                exact rel_value (by simp [go_sem, h41, h46, hk.const]) hC
              refine ob_det (c := .bool true) ?_ ?_
              · intro ρ W hk hC
                simp only [seen, obOp, List.getD_cons_zero, List.getD_cons_succ]
                rintro h30 h47
                exact rel_value (by simp [go_sem, h30, h47, hk.const]) hC
              intro vs w5 hC5
              simp only [endSeen, List.getD_cons_zero]
              intro h48
              simp only [writeAll, List.setIfInBounds_toArray, List.set_cons_zero, List.set_cons_succ, h48]
              have eT5 := (hC5.cell (p := ⟨w.heap.size + 1, 0, none⟩) HTW.out.2.2).trans HTW.out.1
              have fT5 := (hC5.frozen (p := ⟨w.heap.size + 1, 0, none⟩) HTW.out.2.2).trans HTW.out.2.1
              refine HK1.out _ _ ?_
              gi_wp2
              exact ⟨(Writes.of_below (A := fun g => g = w.heap.size + 1) hC5).setCell (A := fun g => g = w.heap.size + 1) (p := ⟨w.heap.size + 1, 0, none⟩) rfl _, rfl, ⟨j, by simp, HJB.out⟩, by simp [go_sem, eT5]⟩
        | true =>
          rw [hh, Bool.true_and] at hjb
          rw [hh] at HH0
          have HH := Lib.hid HH0
          generalize beyL L zs zp = y at HY0 hjb
          obtain ⟨ys, yp⟩ := y
          dsimp only at HY0 hjb
          have HY := Lib.hid HY0
          clear HH0 HY0 hh
          by_cases hP : ys = (i : Nat) ∧ yp = (j : Nat)
          · have hqP : ∀ V', (Op.equalIn 10000 37 (.agg #[.int .i64 ys, .int .i64 yp]) (.agg #[.int .i64 (i : Nat), .int .i64 (j : Nat)])).run Tryd.prog V' = .ok true V' := fun V' => by rw [eqQ_portI, decide_eq_true hP]
            have HJB := Lib.hid (show joinB L (i : Nat) j = true by rw [hjb]; obtain ⟨rfl, rfl⟩ := hP; simp)
            clear hP hjb
            focus
              refine wpIn_region_rel_below (.inr ⟨l, rfl⟩) [([(6, none)], none), ([], none), ([(27, some 1), (28, some 0)], none), ([(29, some 0)], none), ([(6, none), (30, some 0)], some (30, true)), ([(31, some 0), (30, some 1)], some (30, true)), ([(3, none), (30, some 2)], some (30, true)), ([(32, some 1), (33, some 0), (30, some 3)], some (30, true)), ([(34, some 0), (30, some 4)], some (30, true)), ([(1, none), (35, some 0)], some (35, false)), ([(6, none), (35, some 1)], some (35, false)), ([(36, some 1), (37, some 0), (35, some 2)], some (35, false)), ([(38, some 0), (35, some 3)], some (35, false)), ([(35, some 4), (39, some 0), (30, some 9)], some (30, true)), ([(40, some 0), (30, some 10)], some (30, true)), ([(1, none), (41, some 0)], some (41, false)), ([(6, none), (41, some 1)], some (41, false)), ([(42, some 1), (43, some 0), (41, some 2)], some (41, false)), ([(5, none), (41, some 3)], some (41, false)), ([(44, some 1), (45, some 0), (41, some 4)], some (41, false)), ([(41, some 5), (46, some 0), (30, some 16)], some (30, true)), ([(30, some 17), (47, some 0)], none)] [(0, 48)] (by kernel_rfl) (by kernel_rfl) (by kernel_rfl) ?_
              refine ob_det (c := .agg #[.int .i64 zs, .int .i64 zp]) ?_ ?_
              · intro ρ W hk hC
                simp only [seen, obOp]
                rintro h6
                replace h6 : ρ (.tmp 6) = .pointer (some ⟨b6, 0, none⟩) := h6.trans rfl
                exact rel_value (by simp [go_sem, h6, y0 W hC, y1 W hC]) hC
              refine ob_det (c := .agg #[.int .i64 (-1), .int .i64 0]) ?_ ?_
              · intro ρ W hk hC
                simp only [seen, obOp]
                exact rel_value (by simp [go_sem, hk.global, e0 W hC, e1 W hC]) hC
              refine ob_det (c := .bool true) ?_ ?_
              · intro ρ W hk hC
                simp only [seen, obOp, List.getD_cons_zero, List.getD_cons_succ]
                rintro h27 h28
                exact rel_value (by simp [go_sem, h27, h28, hqE]) hC
              refine ob_det (c := .bool true) ?_ ?_
              · intro ρ W hk hC
                simp only [seen, obOp, List.getD_cons_zero]
                rintro h29
                exact rel_value (by simp [go_sem, h29]) hC
              refine ob_det (c := .pointer (some ⟨b6, 0, none⟩)) ?_ ?_
              · intro ρ W hk hC
                simp only [seen, obOp, List.getD_cons_zero]
                rintro h6 h30
                replace h6 : ρ (.tmp 6) = .pointer (some ⟨b6, 0, none⟩) := h6.trans rfl
                refine ⟨fun _ => ?_, fun hn => absurd h30 hn⟩
                exact rel_value (by simp [go_sem, h6]) hC
              refine ob_det (c := .int .i64 zs) ?_ ?_
              · intro ρ W hk hC
                simp only [seen, obOp, List.getD_cons_zero, List.getD_cons_succ]
                rintro h31 h30
                refine ⟨fun _ => ?_, fun hn => absurd h30 hn⟩
                exact rel_value (by simp [go_sem, h31, y0 W hC]) hC
              refine ob_det (c := .int .i64 (i : Nat)) ?_ ?_
              · intro ρ W hk hC
                simp only [seen, obOp, List.getD_cons_zero, List.getD_cons_succ]
                rintro h3 h30
                replace h3 : ρ (.tmp 3) = .pointer (some ⟨wr.heap.size, 0, none⟩) := h3.trans rfl
                refine ⟨fun _ => ?_, fun hn => absurd h30 hn⟩
                exact rel_value (by simp [go_sem, h3, x3 W hC]) hC
              refine ob_det (c := .bool false) ?_ ?_
              · intro ρ W hk hC
                simp only [seen, obOp, List.getD_cons_zero, List.getD_cons_succ]
                rintro h32 h33 h30
                refine ⟨fun _ => ?_, fun hn => absurd h30 hn⟩
                exact rel_value (by simp [go_sem, h32, h33, hsi]) hC
              refine ob_det (c := .bool false) ?_ ?_
              · intro ρ W hk hC
                simp only [seen, obOp, List.getD_cons_zero, List.getD_cons_succ]
                rintro h34 h30
                refine ⟨fun _ => ?_, fun hn => absurd h30 hn⟩
                exact rel_value (by simp [go_sem, h34]) hC
              refine ob_det (c := .agg #[.slice (some ⟨b, off, none⟩) L.secs.length p0, .slice a1 L.sigs.length p1, .slice a2 L.exits.length p2, .slice a3 L.flanks.length p3, .int .i64 L.t0, .int .i64 L.t1, .int .i64 L.t2, .int .i64 L.t3, .int .i64 L.t4, .int .i64 L.t5, .int .i64 L.t6]) ?_ ?_
              · intro ρ W hk hC
                simp only [seen, obOp, List.getD_cons_zero]
                rintro h1 h35
                replace h1 : ρ (.tmp 1) = .pointer (some ⟨w.heap.size, 0, none⟩) := h1.trans rfl
                refine ⟨fun _ => ?_, fun hn => absurd h35 hn⟩
                exact rel_value (runLoad h1 (HBX.out.below hC)) hC
              refine ob_det (c := .agg #[.int .i64 zs, .int .i64 zp]) ?_ ?_
              · intro ρ W hk hC
                simp only [seen, obOp, List.getD_cons_zero, List.getD_cons_succ]
                rintro h6 h35
                replace h6 : ρ (.tmp 6) = .pointer (some ⟨b6, 0, none⟩) := h6.trans rfl
                refine ⟨fun _ => ?_, fun hn => absurd h35 hn⟩
                exact rel_value (by simp [go_sem, h6, y0 W hC, y1 W hC]) hC
              refine ob_det (c := .bool true) ?_ ?_
              · intro ρ W hk hC
                simp only [seen, obOp, List.getD_cons_zero, List.getD_cons_succ]
                rintro h36 h37 h35
                refine ⟨fun _ => ?_, fun hn => absurd h35 hn⟩
                exact rel_call (f := 78) (args := #[.agg #[.slice (some ⟨b, off, none⟩) L.secs.length p0, .slice a1 L.sigs.length p1, .slice a2 L.exits.length p2, .slice a3 L.flanks.length p3, .int .i64 L.t0, .int .i64 L.t1, .int .i64 L.t2, .int .i64 L.t3, .int .i64 L.t4, .int .i64 L.t5, .int .i64 L.t6], .agg #[.int .i64 zs, .int .i64 zp]]) (by simp [go_sem, h36, h37, hk.func]) hC (HH.out W hC)
              refine ob_det (c := .bool false) ?_ ?_
              · intro ρ W hk hC
                simp only [seen, obOp, List.getD_cons_zero, List.getD_cons_succ]
                rintro h38 h35
                refine ⟨fun _ => ?_, fun hn => absurd h35 hn⟩
                exact rel_value (by simp [go_sem, h38]) hC
              refine ob_det (c := .bool false) ?_ ?_
              · intro ρ W hk hC
                simp only [seen, obOp, List.getD_cons_zero, List.getD_cons_succ]
                rintro h35 h39 h30
                refine ⟨fun _ => ?_, fun hn => absurd h30 hn⟩
                exact rel_value (by simp [go_sem, h35, h39, hk.const]) hC
              refine ob_det (c := .bool false) ?_ ?_
              · intro ρ W hk hC
                simp only [seen, obOp, List.getD_cons_zero, List.getD_cons_succ]
                rintro h40 h30
                refine ⟨fun _ => ?_, fun hn => absurd h30 hn⟩
                exact rel_value (by simp [go_sem, h40]) hC
              refine ob_det (c := .agg #[.slice (some ⟨b, off, none⟩) L.secs.length p0, .slice a1 L.sigs.length p1, .slice a2 L.exits.length p2, .slice a3 L.flanks.length p3, .int .i64 L.t0, .int .i64 L.t1, .int .i64 L.t2, .int .i64 L.t3, .int .i64 L.t4, .int .i64 L.t5, .int .i64 L.t6]) ?_ ?_
              · intro ρ W hk hC
                simp only [seen, obOp, List.getD_cons_zero]
                rintro h1 h41
                replace h1 : ρ (.tmp 1) = .pointer (some ⟨w.heap.size, 0, none⟩) := h1.trans rfl
                refine ⟨fun _ => ?_, fun hn => absurd h41 hn⟩
                exact rel_value (runLoad h1 (HBX.out.below hC)) hC
              refine ob_det (c := .agg #[.int .i64 zs, .int .i64 zp]) ?_ ?_
              · intro ρ W hk hC
                simp only [seen, obOp, List.getD_cons_zero, List.getD_cons_succ]
                rintro h6 h41
                replace h6 : ρ (.tmp 6) = .pointer (some ⟨b6, 0, none⟩) := h6.trans rfl
                refine ⟨fun _ => ?_, fun hn => absurd h41 hn⟩
                exact rel_value (by simp [go_sem, h6, y0 W hC, y1 W hC]) hC
              refine ob_det (c := .agg #[.int .i64 ys, .int .i64 yp]) ?_ ?_
              · intro ρ W hk hC
                simp only [seen, obOp, List.getD_cons_zero, List.getD_cons_succ]
                rintro h42 h43 h41
                refine ⟨fun _ => ?_, fun hn => absurd h41 hn⟩
                exact rel_call (f := 65) (args := #[.agg #[.slice (some ⟨b, off, none⟩) L.secs.length p0, .slice a1 L.sigs.length p1, .slice a2 L.exits.length p2, .slice a3 L.flanks.length p3, .int .i64 L.t0, .int .i64 L.t1, .int .i64 L.t2, .int .i64 L.t3, .int .i64 L.t4, .int .i64 L.t5, .int .i64 L.t6], .agg #[.int .i64 zs, .int .i64 zp]]) (by simp [go_sem, h42, h43, hk.func]) hC (HY.out W hC)
              refine ob_det (c := .agg #[.int .i64 (i : Nat), .int .i64 (j : Nat)]) ?_ ?_
              · intro ρ W hk hC
                simp only [seen, obOp, List.getD_cons_zero, List.getD_cons_succ]
                rintro h5 h41
                replace h5 : ρ (.tmp 5) = .pointer (some ⟨b5, 0, none⟩) := h5.trans rfl
                refine ⟨fun _ => ?_, fun hn => absurd h41 hn⟩
                exact rel_value (by simp [go_sem, h5, x0 W hC, x1 W hC]) hC
              refine ob_det (c := .bool false) ?_ ?_
              · intro ρ W hk hC
                simp only [seen, obOp, List.getD_cons_zero, List.getD_cons_succ]
                rintro h44 h45 h41
                refine ⟨fun _ => ?_, fun hn => absurd h41 hn⟩
                exact rel_value (by simp [go_sem, h44, h45, hqP]) hC
              refine ob_det (c := .bool false) ?_ ?_
              · intro ρ W hk hC
                simp only [seen, obOp, List.getD_cons_zero, List.getD_cons_succ]
                rintro h41 h46 h30
                refine ⟨fun _ => ?_, fun hn => absurd h30 hn⟩
                exact rel_value (by simp [go_sem, h41, h46, hk.const]) hC
              refine ob_det (c := .bool false) ?_ ?_
              · intro ρ W hk hC
                simp only [seen, obOp, List.getD_cons_zero, List.getD_cons_succ]
                rintro h30 h47
                exact rel_value (by simp [go_sem, h30, h47, hk.const]) hC
              intro vs w5 hC5
              simp only [endSeen, List.getD_cons_zero]
              intro h48
              simp only [writeAll, List.setIfInBounds_toArray, List.set_cons_zero, List.set_cons_succ, h48]
              refine HK1.out _ _ ?_
              gi_wp2
              refine ⟨hC5, fun t ht => ?_⟩
              rcases List.mem_append.1 ht with ht | ht
              · exact HI.out t ht
              · rw [List.mem_singleton.1 ht]; exact HJB.out
          · have hqP : ∀ V', (Op.equalIn 10000 37 (.agg #[.int .i64 ys, .int .i64 yp]) (.agg #[.int .i64 (i : Nat), .int .i64 (j : Nat)])).run Tryd.prog V' = .ok false V' := fun V' => by rw [eqQ_portI, decide_eq_false hP]
            have HJB := Lib.hid (show joinB L (i : Nat) j = false by rw [hjb]; exact decide_eq_false (fun h => hP (by cases h; exact ⟨rfl, rfl⟩)))
            clear hP hjb
            focus
              refine wpIn_region_rel_below (.inr ⟨l, rfl⟩) [([(6, none)], none), ([], none), ([(27, some 1), (28, some 0)], none), ([(29, some 0)], none), ([(6, none), (30, some 0)], some (30, true)), ([(31, some 0), (30, some 1)], some (30, true)), ([(3, none), (30, some 2)], some (30, true)), ([(32, some 1), (33, some 0), (30, some 3)], some (30, true)), ([(34, some 0), (30, some 4)], some (30, true)), ([(1, none), (35, some 0)], some (35, false)), ([(6, none), (35, some 1)], some (35, false)), ([(36, some 1), (37, some 0), (35, some 2)], some (35, false)), ([(38, some 0), (35, some 3)], some (35, false)), ([(35, some 4), (39, some 0), (30, some 9)], some (30, true)), ([(40, some 0), (30, some 10)], some (30, true)), ([(1, none), (41, some 0)], some (41, false)), ([(6, none), (41, some 1)], some (41, false)), ([(42, some 1), (43, some 0), (41, some 2)], some (41, false)), ([(5, none), (41, some 3)], some (41, false)), ([(44, some 1), (45, some 0), (41, some 4)], some (41, false)), ([(41, some 5), (46, some 0), (30, some 16)], some (30, true)), ([(30, some 17), (47, some 0)], none)] [(0, 48)] (by kernel_rfl) (by kernel_rfl) (by kernel_rfl) ?_
              refine ob_det (c := .agg #[.int .i64 zs, .int .i64 zp]) ?_ ?_
              · intro ρ W hk hC
                simp only [seen, obOp]
                rintro h6
                replace h6 : ρ (.tmp 6) = .pointer (some ⟨b6, 0, none⟩) := h6.trans rfl
                exact rel_value (by simp [go_sem, h6, y0 W hC, y1 W hC]) hC
              refine ob_det (c := .agg #[.int .i64 (-1), .int .i64 0]) ?_ ?_
              · intro ρ W hk hC
                simp only [seen, obOp]
                exact rel_value (by simp [go_sem, hk.global, e0 W hC, e1 W hC]) hC
              refine ob_det (c := .bool true) ?_ ?_
              · intro ρ W hk hC
                simp only [seen, obOp, List.getD_cons_zero, List.getD_cons_succ]
                rintro h27 h28
                exact rel_value (by simp [go_sem, h27, h28, hqE]) hC
              refine ob_det (c := .bool true) ?_ ?_
              · intro ρ W hk hC
                simp only [seen, obOp, List.getD_cons_zero]
                rintro h29
                exact rel_value (by simp [go_sem, h29]) hC
              refine ob_det (c := .pointer (some ⟨b6, 0, none⟩)) ?_ ?_
              · intro ρ W hk hC
                simp only [seen, obOp, List.getD_cons_zero]
                rintro h6 h30
                replace h6 : ρ (.tmp 6) = .pointer (some ⟨b6, 0, none⟩) := h6.trans rfl
                refine ⟨fun _ => ?_, fun hn => absurd h30 hn⟩
                exact rel_value (by simp [go_sem, h6]) hC
              refine ob_det (c := .int .i64 zs) ?_ ?_
              · intro ρ W hk hC
                simp only [seen, obOp, List.getD_cons_zero, List.getD_cons_succ]
                rintro h31 h30
                refine ⟨fun _ => ?_, fun hn => absurd h30 hn⟩
                exact rel_value (by simp [go_sem, h31, y0 W hC]) hC
              refine ob_det (c := .int .i64 (i : Nat)) ?_ ?_
              · intro ρ W hk hC
                simp only [seen, obOp, List.getD_cons_zero, List.getD_cons_succ]
                rintro h3 h30
                replace h3 : ρ (.tmp 3) = .pointer (some ⟨wr.heap.size, 0, none⟩) := h3.trans rfl
                refine ⟨fun _ => ?_, fun hn => absurd h30 hn⟩
                exact rel_value (by simp [go_sem, h3, x3 W hC]) hC
              refine ob_det (c := .bool false) ?_ ?_
              · intro ρ W hk hC
                simp only [seen, obOp, List.getD_cons_zero, List.getD_cons_succ]
                rintro h32 h33 h30
                refine ⟨fun _ => ?_, fun hn => absurd h30 hn⟩
                exact rel_value (by simp [go_sem, h32, h33, hsi]) hC
              refine ob_det (c := .bool false) ?_ ?_
              · intro ρ W hk hC
                simp only [seen, obOp, List.getD_cons_zero, List.getD_cons_succ]
                rintro h34 h30
                refine ⟨fun _ => ?_, fun hn => absurd h30 hn⟩
                exact rel_value (by simp [go_sem, h34]) hC
              refine ob_det (c := .agg #[.slice (some ⟨b, off, none⟩) L.secs.length p0, .slice a1 L.sigs.length p1, .slice a2 L.exits.length p2, .slice a3 L.flanks.length p3, .int .i64 L.t0, .int .i64 L.t1, .int .i64 L.t2, .int .i64 L.t3, .int .i64 L.t4, .int .i64 L.t5, .int .i64 L.t6]) ?_ ?_
              · intro ρ W hk hC
                simp only [seen, obOp, List.getD_cons_zero]
                rintro h1 h35
                replace h1 : ρ (.tmp 1) = .pointer (some ⟨w.heap.size, 0, none⟩) := h1.trans rfl
                refine ⟨fun _ => ?_, fun hn => absurd h35 hn⟩
                exact rel_value (runLoad h1 (HBX.out.below hC)) hC
              refine ob_det (c := .agg #[.int .i64 zs, .int .i64 zp]) ?_ ?_
              · intro ρ W hk hC
                simp only [seen, obOp, List.getD_cons_zero, List.getD_cons_succ]
                rintro h6 h35
                replace h6 : ρ (.tmp 6) = .pointer (some ⟨b6, 0, none⟩) := h6.trans rfl
                refine ⟨fun _ => ?_, fun hn => absurd h35 hn⟩
                exact rel_value (by simp [go_sem, h6, y0 W hC, y1 W hC]) hC
              refine ob_det (c := .bool true) ?_ ?_
              · intro ρ W hk hC
                simp only [seen, obOp, List.getD_cons_zero, List.getD_cons_succ]
                rintro h36 h37 h35
                refine ⟨fun _ => ?_, fun hn => absurd h35 hn⟩
                exact rel_call (f := 78) (args := #[.agg #[.slice (some ⟨b, off, none⟩) L.secs.length p0, .slice a1 L.sigs.length p1, .slice a2 L.exits.length p2, .slice a3 L.flanks.length p3, .int .i64 L.t0, .int .i64 L.t1, .int .i64 L.t2, .int .i64 L.t3, .int .i64 L.t4, .int .i64 L.t5, .int .i64 L.t6], .agg #[.int .i64 zs, .int .i64 zp]]) (by simp [go_sem, h36, h37, hk.func]) hC (HH.out W hC)
              refine ob_det (c := .bool false) ?_ ?_
              · intro ρ W hk hC
                simp only [seen, obOp, List.getD_cons_zero, List.getD_cons_succ]
                rintro h38 h35
                refine ⟨fun _ => ?_, fun hn => absurd h35 hn⟩
                exact rel_value (by simp [go_sem, h38]) hC
              refine ob_det (c := .bool false) ?_ ?_
              · intro ρ W hk hC
                simp only [seen, obOp, List.getD_cons_zero, List.getD_cons_succ]
                rintro h35 h39 h30
                refine ⟨fun _ => ?_, fun hn => absurd h30 hn⟩
                exact rel_value (by simp [go_sem, h35, h39, hk.const]) hC
              refine ob_det (c := .bool false) ?_ ?_
              · intro ρ W hk hC
                simp only [seen, obOp, List.getD_cons_zero, List.getD_cons_succ]
                rintro h40 h30
                refine ⟨fun _ => ?_, fun hn => absurd h30 hn⟩
                exact rel_value (by simp [go_sem, h40]) hC
              refine ob_det (c := .agg #[.slice (some ⟨b, off, none⟩) L.secs.length p0, .slice a1 L.sigs.length p1, .slice a2 L.exits.length p2, .slice a3 L.flanks.length p3, .int .i64 L.t0, .int .i64 L.t1, .int .i64 L.t2, .int .i64 L.t3, .int .i64 L.t4, .int .i64 L.t5, .int .i64 L.t6]) ?_ ?_
              · intro ρ W hk hC
                simp only [seen, obOp, List.getD_cons_zero]
                rintro h1 h41
                replace h1 : ρ (.tmp 1) = .pointer (some ⟨w.heap.size, 0, none⟩) := h1.trans rfl
                refine ⟨fun _ => ?_, fun hn => absurd h41 hn⟩
                exact rel_value (runLoad h1 (HBX.out.below hC)) hC
              refine ob_det (c := .agg #[.int .i64 zs, .int .i64 zp]) ?_ ?_
              · intro ρ W hk hC
                simp only [seen, obOp, List.getD_cons_zero, List.getD_cons_succ]
                rintro h6 h41
                replace h6 : ρ (.tmp 6) = .pointer (some ⟨b6, 0, none⟩) := h6.trans rfl
                refine ⟨fun _ => ?_, fun hn => absurd h41 hn⟩
                exact rel_value (by simp [go_sem, h6, y0 W hC, y1 W hC]) hC
              refine ob_det (c := .agg #[.int .i64 ys, .int .i64 yp]) ?_ ?_
              · intro ρ W hk hC
                simp only [seen, obOp, List.getD_cons_zero, List.getD_cons_succ]
                rintro h42 h43 h41
                refine ⟨fun _ => ?_, fun hn => absurd h41 hn⟩
                exact rel_call (f := 65) (args := #[.agg #[.slice (some ⟨b, off, none⟩) L.secs.length p0, .slice a1 L.sigs.length p1, .slice a2 L.exits.length p2, .slice a3 L.flanks.length p3, .int .i64 L.t0, .int .i64 L.t1, .int .i64 L.t2, .int .i64 L.t3, .int .i64 L.t4, .int .i64 L.t5, .int .i64 L.t6], .agg #[.int .i64 zs, .int .i64 zp]]) (by simp [go_sem, h42, h43, hk.func]) hC (HY.out W hC)
              refine ob_det (c := .agg #[.int .i64 (i : Nat), .int .i64 (j : Nat)]) ?_ ?_
              · intro ρ W hk hC
                simp only [seen, obOp, List.getD_cons_zero, List.getD_cons_succ]
                rintro h5 h41
                replace h5 : ρ (.tmp 5) = .pointer (some ⟨b5, 0, none⟩) := h5.trans rfl
                refine ⟨fun _ => ?_, fun hn => absurd h41 hn⟩
                exact rel_value (by simp [go_sem, h5, x0 W hC, x1 W hC]) hC
              refine ob_det (c := .bool true) ?_ ?_
              · intro ρ W hk hC
                simp only [seen, obOp, List.getD_cons_zero, List.getD_cons_succ]
                rintro h44 h45 h41
                refine ⟨fun _ => ?_, fun hn => absurd h41 hn⟩
                exact rel_value (by simp [go_sem, h44, h45, hqP]) hC
              refine ob_det (c := .bool true) ?_ ?_
              · intro ρ W hk hC
                simp only [seen, obOp, List.getD_cons_zero, List.getD_cons_succ]
                rintro h41 h46 h30
                refine ⟨fun _ => ?_, fun hn => absurd h30 hn⟩
                exact rel_value (by simp [go_sem, h41, h46, hk.const]) hC
              refine ob_det (c := .bool true) ?_ ?_
              · intro ρ W hk hC
                simp only [seen, obOp, List.getD_cons_zero, List.getD_cons_succ]
                rintro h30 h47
                exact rel_value (by simp [go_sem, h30, h47, hk.const]) hC
              intro vs w5 hC5
              simp only [endSeen, List.getD_cons_zero]
              intro h48
              simp only [writeAll, List.setIfInBounds_toArray, List.set_cons_zero, List.set_cons_succ, h48]
              have eT5 := (hC5.cell (p := ⟨w.heap.size + 1, 0, none⟩) HTW.out.2.2).trans HTW.out.1
              have fT5 := (hC5.frozen (p := ⟨w.heap.size + 1, 0, none⟩) HTW.out.2.2).trans HTW.out.2.1
              refine HK1.out _ _ ?_
              gi_wp2
              exact ⟨(Writes.of_below (A := fun g => g = w.heap.size + 1) hC5).setCell (A := fun g => g = w.heap.size + 1) (p := ⟨w.heap.size + 1, 0, none⟩) rfl _, rfl, ⟨j, by simp, HJB.out⟩, by simp [go_sem, eT5]⟩
      case done =>
        rintro D ys W hD rfl hw hi hK
        have hmD := (HMV.out.2.below hw).cons (Nat.le_trans lwV hD) (fun D' h' => Nat.lt_of_lt_of_le (HMV.out.2.lt D' h') hD) hK
        have hXW := bchain HMV.out.1 hw
        have hfin : ∀ j', j' < i + 1 → secFine L j' = true := fun j' hj' => by
          by_cases e : j' = i
          · subst e; rw [HSF.out, Bool.true_and, List.all_eq_true]; exact hi
          · exact HM.out.2.2 j' (by omega)
        have HDN := Lib.hid (⟨hmD, hXW, hfin⟩ : _ ∧ _ ∧ _)
        clear hmD hXW hfin hw hi hK
        dsimp only
        go_wp2
        refine ⟨⟨i + 1, D :: Ds, _, _, _, _, _, _, _, _, _, _, _, _, _, rfl, hlt, HDN.out.2.1, HDN.out.1, HDN.out.2.2⟩, ?_⟩
        · simp [intOf]; omega
      case stop =>
        rintro D cd pre W hD hS hw ⟨rfl, ⟨j, hj, hf⟩, eT⟩ hK
        obtain rfl : r = false := HR.out.2.1 i hlt (by
          rw [HSF.out, Bool.true_and, List.all_eq_false]
          exact ⟨j, hS.subset hj, by rw [hf]; simp⟩)
        have hmD := (HMV.out.2.writes hw (by rintro g rfl; exact ⟨_, _, HV.out.2.2.2.2.2.1⟩)).cons (Nat.le_trans lwV hD) (fun D' h' => Nat.lt_of_lt_of_le (HMV.out.2.lt D' h') hD) hK
        have hbw : Below w.heap.size w W := hw.below (bchain HX.out.1 HMV.out.1) lwV (by rintro g rfl; omega)
        dsimp only
        go_wp2
        refine ⟨⟨_, hmD⟩, fun w' hb hk => ⟨.bool false, ?_, rfl, hbw.trans hb⟩⟩
        have e1 := cells_kept hk (b := w.heap.size + 1) (o := 0) (v := .bool false) (by simp [go_sem, eT])
        simp [results, Tryd.results54, go_sem, e1]
  · obtain rfl : i = L.secs.length := by omega
    obtain rfl : r = true := HR.out.2.2 (by have := H24.out; omega) HM.out.2.2
    have ltT : w.heap.size + 1 < X.heap.size := by rw [HX.out.2.2.2.2]; omega
    have eT : wr.cell? ⟨w.heap.size + 1, 0, none⟩ = some (.bool false) := (HM.out.1.cell (p := ⟨w.heap.size + 1, 0, none⟩) ltT).trans HX.out.2.2.1
    have fT : wr.frozen? ⟨w.heap.size + 1, 0, none⟩ = false := (HM.out.1.frozen (p := ⟨w.heap.size + 1, 0, none⟩) ltT).trans HX.out.2.2.2.1
    go_wp2_with fail
    have hw : Writes (fun g => g = w.heap.size + 1) wr (wr.setCell ⟨w.heap.size + 1, 0, none⟩ (.bool true)) := (Writes.refl (fun g => g = w.heap.size + 1) _).setCell (A := fun g => g = w.heap.size + 1) (p := ⟨w.heap.size + 1, 0, none⟩) rfl _
    have hbw : Below w.heap.size w (wr.setCell ⟨w.heap.size + 1, 0, none⟩ (.bool true)) := hw.below (bchain HX.out.1 HM.out.1) (Nat.le_trans HX.out.1.size HM.out.1.size) (by rintro g rfl; omega)
    refine ⟨⟨_, HM.out.2.1.writes hw (by rintro g rfl; exact ⟨_, _, eT⟩)⟩, fun w' hb hk => ⟨.bool true, ?_, rfl, hbw.trans hb⟩⟩
    have e1 := cells_kept hk (b := w.heap.size + 1) (o := 0) (v := .bool true) (by simp [go_sem, eT])
    simp [results, Tryd.results54, go_sem, e1]
end Go.Proofs.YtmnkgnoljllnnaaDoor

/-
  topo.over: an exit's overlap.
-/
namespace Go.Proofs.YtmnkgnoljllnnaaDoor
open Go.RowKit Go.Shelf
attribute [local go_sem ↓ high] eqQ_portI

/-- Is the overlap one, from a port on, with sections gone through. -/
def overF (L : Lay) (s q : Int) (seen : List Int) : List Stp → Bool
  | [] => true
  | x :: r => decide (beyL L s q = ⟨x.s, x.i⟩) && !(seen.contains x.s) && overF L x.s x.o (x.s :: seen) r
def overOk (L : Lay) (x : Ext') : Bool := overF L x.s x.p [x.s] x.over
/-- How often a section was gone through. -/
def cnt (seen : List Int) (j : Nat) : Int := (seen.filter fun z => z == (j : Int)).length
theorem cnt_cons (z : Int) (seen : List Int) (j : Nat) : cnt (z :: seen) j = (if z = (j : Int) then cnt seen j + 1 else cnt seen j) := by
  unfold cnt
  rw [List.filter_cons]
  by_cases h : z = (j : Int)
  · simp [h]
  · simp [h]
theorem cnt_pos (seen : List Int) (j : Nat) : (0 < cnt seen j) ↔ seen.contains (j : Int) = true := by
  unfold cnt
  rw [List.contains_iff_mem]
  constructor
  · intro h
    have : 0 < (seen.filter fun z => z == (j : Int)).length := by omega
    obtain ⟨z, hz⟩ := List.exists_mem_of_length_pos this
    obtain ⟨h1, h2⟩ := List.mem_filter.1 hz
    rw [beq_iff_eq] at h2
    exact h2 ▸ h1
  · intro h
    have : 0 < (seen.filter fun z => z == (j : Int)).length := List.length_pos_of_mem (List.mem_filter.2 ⟨h, by simp⟩)
    omega
/-- The sections gone through, as they are counted. -/
structure SeenAt (W : World) (b : Nat) (seen : List Int) : Prop where
  lt : b < W.heap.size
  cell : ∀ j, j < 24 → W.cell? ⟨b, j, none⟩ = some (.int .i64 (cnt seen j))
  free : ∀ j, W.frozen? ⟨b, j, none⟩ = false
theorem SeenAt.below {W W' : World} {b : Nat} {seen : List Int} (h : SeenAt W b seen) (hb : Below W.heap.size W W') : SeenAt W' b seen :=
  ⟨Nat.lt_of_lt_of_le h.lt hb.size, fun j hj => (hb.cell (p := ⟨b, j, none⟩) h.lt).trans (h.cell j hj), fun j => (hb.frozen (p := ⟨b, j, none⟩) h.lt).trans (h.free j)⟩
theorem SeenAt.other {W : World} {b g o : Nat} {v : Value} {seen : List Int} (h : SeenAt W b seen) (hg : b ≠ g) : SeenAt (W.setCell ⟨g, o, none⟩ v) b seen :=
  ⟨by simpa [World.setCell] using h.lt, fun j hj => by rw [World.cell?_setCell_far _ _ _ _ (by simpa using hg.symm)]; exact h.cell j hj, fun j => by rw [World.frozen?_setCell]; exact h.free j⟩
theorem SeenAt.more {W : World} {b m : Nat} {seen : List Int} (h : SeenAt W b seen) (hm : m < 24) : SeenAt (W.setCell ⟨b, m, none⟩ (.int .i64 (cnt seen m + 1))) b ((m : Int) :: seen) := by
  refine ⟨by simpa [World.setCell] using h.lt, fun j hj => ?_, fun j => by rw [World.frozen?_setCell]; exact h.free j⟩
  rw [cnt_cons]
  by_cases e : j = m
  · subst e
    rw [if_pos rfl]
    simp [go_sem, h.cell j hj]
  · rw [if_neg (by omega)]
    have := h.cell j hj
    simp [go_sem, this]

theorem zeros_at (m : Nat) (hm : m < 24) : (#[.int .i64 0, .int .i64 0, .int .i64 0, .int .i64 0, .int .i64 0, .int .i64 0, .int .i64 0, .int .i64 0, .int .i64 0, .int .i64 0, .int .i64 0, .int .i64 0, .int .i64 0, .int .i64 0, .int .i64 0, .int .i64 0, .int .i64 0, .int .i64 0, .int .i64 0, .int .i64 0, .int .i64 0, .int .i64 0, .int .i64 0, .int .i64 0] : Array Value)[m]? = some (.int .i64 0) := by
  have : m = 0 ∨ m = 1 ∨ m = 2 ∨ m = 3 ∨ m = 4 ∨ m = 5 ∨ m = 6 ∨ m = 7 ∨ m = 8 ∨ m = 9 ∨ m = 10 ∨ m = 11 ∨ m = 12 ∨ m = 13 ∨ m = 14 ∨ m = 15 ∨ m = 16 ∨ m = 17 ∨ m = 18 ∨ m = 19 ∨ m = 20 ∨ m = 21 ∨ m = 22 ∨ m = 23 := by omega
  rcases this with rfl | rfl | rfl | rfl | rfl | rfl | rfl | rfl | rfl | rfl | rfl | rfl | rfl | rfl | rfl | rfl | rfl | rfl | rfl | rfl | rfl | rfl | rfl | rfl <;> rfl
theorem SeenAt.make (W : World) (t : TypeId) : SeenAt (W.alloc (.cells #[.int .i64 0, .int .i64 0, .int .i64 0, .int .i64 0, .int .i64 0, .int .i64 0, .int .i64 0, .int .i64 0, .int .i64 0, .int .i64 0, .int .i64 0, .int .i64 0, .int .i64 0, .int .i64 0, .int .i64 0, .int .i64 0, .int .i64 0, .int .i64 0, .int .i64 0, .int .i64 0, .int .i64 0, .int .i64 0, .int .i64 0, .int .i64 0] t)) W.heap.size [] :=
  ⟨by simp, fun j hj => by rw [World.cell?_alloc_at _ _ _ _ rfl]; exact zeros_at j hj, fun j => by simp [go_sem]⟩

set_option maxRecDepth 100000 in
set_option maxHeartbeats 8000000 in
theorem over_any (L : Lay) (P : Where) (x : Ext') (vA : Option Addr) (vc : Nat) (w : World) (hL : LayAt w P L) (K : Kinds w) (E : JEnd w) (hA : At w 3 Stp.enc vA x.over) (hl : x.over.length ≤ vc) (hm : vc ≤ 9223372036854775807)
    (hx : 0 ≤ x.s ∧ x.s < 24) (hs : ∀ s ∈ x.over, 0 ≤ s.s ∧ s.s < 24) :
    Calls Tryd.prog 27 #[L.val P, .agg #[.int .i64 x.s, .int .i64 x.p, .slice vA x.over.length vc]] w fun e w' => e = .returned (.bool (overOk L x)) ∧ Below w.heap.size w w' := by
  obtain ⟨r, hr⟩ : ∃ r, r = overOk L x := ⟨_, rfl⟩
  rw [← hr]
  unfold overOk at hr
  obtain ⟨xs, xp, ov⟩ := x
  dsimp only at *
  obtain ⟨a, rfl⟩ : ∃ a : Nat, xs = (a : Int) := ⟨xs.toNat, by omega⟩
  have ha : a < 24 := by omega
  have hbey := fun (W : World) (s q : Int) (hb : Below w.heap.size w W) => beyJ_any L P s q W (hL.below hb) (K.below hb) (E.below hb)
  obtain ⟨len, hlen⟩ : ∃ len, len = ov.length := ⟨_, rfl⟩
  have HLN := Lib.hid hlen
  have m0 : len ≤ 9223372036854775807 := by omega
  rw [← hlen]
  unfold Lay.val at hbey ⊢
  obtain ⟨a0, a1, a2, a3, p0, p1, p2, p3⟩ := P
  have HR := Lib.hid hr
  have HBY := Lib.hid hbey
  have HA := Lib.hid hA
  have HS := Lib.hid hs
  clear hr hbey hA hs hx hL K E hl hm hlen
  go_enter Tryd.func27, Tryd.ntmps27
  go_wp2_with fail
  refine wp_scope_fwd 0 rfl ?_
  go_upto_region 3 with fail
  obtain ⟨X, hX⟩ : ∃ X, X = (((w.alloc (.cells #[.slice a0 L.secs.length p0, .slice a1 L.sigs.length p1, .slice a2 L.exits.length p2, .slice a3 L.flanks.length p3, .int .i64 L.t0, .int .i64 L.t1, .int .i64 L.t2, .int .i64 L.t3, .int .i64 L.t4, .int .i64 L.t5, .int .i64 L.t6] 29)).alloc (.cells #[.int .i64 a, .int .i64 xp, .slice vA len vc] 40)).alloc (.cells #[.int .i64 0, .int .i64 0, .int .i64 0, .int .i64 0, .int .i64 0, .int .i64 0, .int .i64 0, .int .i64 0, .int .i64 0, .int .i64 0, .int .i64 0, .int .i64 0, .int .i64 0, .int .i64 0, .int .i64 0, .int .i64 0, .int .i64 0, .int .i64 0, .int .i64 0, .int .i64 0, .int .i64 0, .int .i64 0, .int .i64 0, .int .i64 0] 90)).alloc (.cells #[.int .i64 a, .int .i64 xp] 37) := ⟨_, rfl⟩
  have hB : Below w.heap.size w X := by rw [hX]; exact bchain (bchain (bchain bself bself) bself) bself
  have hL1 : BoxL X w.heap.size L ⟨a0, a1, a2, a3, p0, p1, p2, p3⟩ := by rw [hX]; exact (((BoxL.make _ rfl).below bself).below bself).below bself
  have hS1 : SeenAt X (w.heap.size + 1 + 1) [] := by
    rw [hX]
    have h := SeenAt.make ((w.alloc (.cells #[.slice a0 L.secs.length p0, .slice a1 L.sigs.length p1, .slice a2 L.exits.length p2, .slice a3 L.flanks.length p3, .int .i64 L.t0, .int .i64 L.t1, .int .i64 L.t2, .int .i64 L.t3, .int .i64 L.t4, .int .i64 L.t5, .int .i64 L.t6] 29)).alloc (.cells #[.int .i64 a, .int .i64 xp, .slice vA len vc] 40)) 90
    simp only [World.size_alloc] at h
    exact h.below bself
  have lX : X.heap.size = w.heap.size + 1 + 1 + 1 + 1 := by rw [hX]; simp
  have e2 : X.cell? ⟨w.heap.size + 1, 2, none⟩ = some (.slice vA len vc) := by rw [hX]; simp [go_sem]
  have q0 : X.cell? ⟨w.heap.size + 1 + 1 + 1, 0, none⟩ = some (.int .i64 a) := by rw [hX]; simp [go_sem]
  have q1 : X.cell? ⟨w.heap.size + 1 + 1 + 1, 1, none⟩ = some (.int .i64 xp) := by rw [hX]; simp [go_sem]
  have qf : ∀ o, X.frozen? ⟨w.heap.size + 1 + 1 + 1, o, none⟩ = false := fun o => by rw [hX]; simp [go_sem]
  have cS := hS1.cell a ha
  have fS := hS1.free a
  rw [show cnt [] a = 0 from rfl] at cS
  rw [← hX]
  have l1 : w.heap.size + 1 < X.heap.size := by omega
  have l2 : w.heap.size + 1 + 1 < X.heap.size := by omega
  have l3 : w.heap.size + 1 + 1 + 1 < X.heap.size := by omega
  have ha2 : (a : Int) < 24 := by omega
  have HX := Lib.hid (⟨hB, hL1, hS1, q1, qf⟩ : _ ∧ _ ∧ _ ∧ _ ∧ _)
  clear hX hB hL1 hS1 q1 qf lX
  go_wp2_with fail
  have hB1 : Below w.heap.size w (X.setCell ⟨w.heap.size + 1 + 1, a, none⟩ (.int .i64 1)) := HX.out.1.setCell (p := ⟨w.heap.size + 1 + 1, a, none⟩) (by dsimp only; omega) _
  have hL2 : BoxL (X.setCell ⟨w.heap.size + 1 + 1, a, none⟩ (.int .i64 1)) w.heap.size L ⟨a0, a1, a2, a3, p0, p1, p2, p3⟩ := HX.out.2.1.set (by omega)
  have hS2 : SeenAt (X.setCell ⟨w.heap.size + 1 + 1, a, none⟩ (.int .i64 1)) (w.heap.size + 1 + 1) [(a : Int)] := HX.out.2.2.1.more ha
  have q0' : (X.setCell ⟨w.heap.size + 1 + 1, a, none⟩ (.int .i64 1)).cell? ⟨w.heap.size + 1 + 1 + 1, 0, none⟩ = some (.int .i64 a) := by simpa [go_sem] using q0
  have q1' : (X.setCell ⟨w.heap.size + 1 + 1, a, none⟩ (.int .i64 1)).cell? ⟨w.heap.size + 1 + 1 + 1, 1, none⟩ = some (.int .i64 xp) := by simpa [go_sem] using HX.out.2.2.2.1
  have qf' : ∀ o, (X.setCell ⟨w.heap.size + 1 + 1, a, none⟩ (.int .i64 1)).frozen? ⟨w.heap.size + 1 + 1 + 1, o, none⟩ = false := fun o => by rw [World.frozen?_setCell]; exact HX.out.2.2.2.2 o
  have HI := Lib.hid (⟨hB1, hL2, hS2, q0', q1', qf'⟩ : _ ∧ _ ∧ _ ∧ _ ∧ _ ∧ _)
  have hc1 : ∀ j, cnt [(a : Int)] j ≤ 1 := fun j => by rw [cnt_cons]; split <;> simp [cnt]
  have HC1 := Lib.hid hc1
  clear hB1 hL2 hS2 q0' q1' qf' hc1 cS fS HX q0 e2
  generalize (X.setCell ⟨w.heap.size + 1 + 1, a, none⟩ (.int .i64 1)) = Y at HI ⊢
  go_loopw [20] (fun c wr => ∃ (n : Nat) (s q : Int) (ss : List Int), n ≤ len ∧ c = .int .i64 n ∧ Hid (Below w.heap.size w wr ∧ BoxL wr w.heap.size L ⟨a0, a1, a2, a3, p0, p1, p2, p3⟩ ∧ SeenAt wr (w.heap.size + 1 + 1) ss ∧ wr.cell? ⟨w.heap.size + 1 + 1 + 1, 0, none⟩ = some (.int .i64 s) ∧ wr.cell? ⟨w.heap.size + 1 + 1 + 1, 1, none⟩ = some (.int .i64 q) ∧ ∀ o, wr.frozen? ⟨w.heap.size + 1 + 1 + 1, o, none⟩ = false) ∧ Hid (∀ j, cnt ss j ≤ 1) ∧ Hid (r = overF L s q ss (ov.drop n))) (fun c _ => len - (intOf c).toNat)
  case atStart => exact ⟨0, a, xp, [(a : Int)], Nat.zero_le _, rfl, HI, HC1, HR⟩
  case round =>
    obtain ⟨n, s, q, ss, hn, rfl, HI, HC1, HR⟩ := hrel
    have lY := HI.out.2.1.1
    by_cases hlt : n < len
    · obtain ⟨b, off, hAe, hrow⟩ := HA.out.get (j := n) (by rw [← HLN.out]; exact hlt)
      subst hAe
      obtain ⟨y, hy⟩ : ∃ y, ov[n]? = some y := ⟨ov[n]'(by rw [← HLN.out]; exact hlt), List.getElem?_eq_getElem _⟩
      have hym := HS.out y (List.mem_of_getElem? hy)
      have hdrop : ov.drop n = y :: ov.drop (n + 1) := by
        obtain ⟨h1, h2⟩ := List.getElem?_eq_some_iff.1 hy
        rw [List.drop_eq_getElem_cons h1, h2]
      obtain ⟨ys, yi, yo⟩ := y
      dsimp only at hym
      obtain ⟨m, rfl⟩ : ∃ m : Nat, ys = (m : Int) := ⟨ys.toNat, by omega⟩
      have hm : m < 24 := by omega
      have hmI : (m : Int) < 24 := by omega
      have lb := hrow.1
      have k0 : wr.cell? ⟨b, off + n * 3, none⟩ = some (.int .i64 m) := (HI.out.1.cell (p := ⟨b, off + n * 3, none⟩) lb).trans (hrow.2 n _ hy 0 _ rfl)
      have k1 : wr.cell? ⟨b, off + n * 3 + 1, none⟩ = some (.int .i64 yi) := (HI.out.1.cell (p := ⟨b, off + n * 3 + 1, none⟩) lb).trans (hrow.2 n _ hy 1 _ rfl)
      have k2 : wr.cell? ⟨b, off + n * 3 + 2, none⟩ = some (.int .i64 yo) := (HI.out.1.cell (p := ⟨b, off + n * 3 + 2, none⟩) lb).trans (hrow.2 n _ hy 2 _ rfl)
      have lb2 : b < wr.heap.size := Nat.lt_of_lt_of_le lb HI.out.1.size
      obtain ⟨c0, c1, c2, c3, c4, c5, c6, c7, c8, c9, c10⟩ := HI.out.2.1.cells
      dsimp only at c0 c1 c2 c3
      have s0 := HI.out.2.2.2.1
      have s1 := HI.out.2.2.2.2.1
      have l2 : w.heap.size + 1 + 1 < wr.heap.size := HI.out.2.2.1.lt
      have l3 : w.heap.size + 1 + 1 + 1 < wr.heap.size := World.block_lt_of_cell? _ _ s0
      have hr := HR.out
      rw [hdrop] at hr
      simp only [overF] at hr
      have hb1 := HBY.out (wr.alloc (.cells #[.int .i64 m, .int .i64 yi, .int .i64 yo] 42)) s q (bchain HI.out.1 bself)
      have hbx : ∀ W, Below (wr.alloc (.cells #[.int .i64 m, .int .i64 yi, .int .i64 yo] 42)).heap.size (wr.alloc (.cells #[.int .i64 m, .int .i64 yi, .int .i64 yo] 42)) W → _ := fun W hW => HBY.out W s q (bchain (bchain HI.out.1 bself) hW)
      obtain ⟨z, hz⟩ : ∃ z, z = beyL L s q := ⟨_, rfl⟩
      rw [← hz] at hr
      simp only [← hz] at hbx
      obtain ⟨zs, zp⟩ := z
      dsimp only at hbx
      have HB5 := Lib.hid hbx
      have HRN := Lib.hid hr
      clear hbx hb1 hr hz hdrop hrow hy hym
      go_wp2_with fail
      refine wp_region_ext (by kernel_rfl) (by kernel_rfl) fun hx => ?_
      repeat (go_big_quiet_step ((go_at_call 65; exact Calls.ext (HB5.out _ (Ext.below _)))))
      refine wpQuiet_nil ?_
      intro w5 b5
      have HI5 := Lib.hid (⟨bchain (bchain HI.out.1 bself) b5, (HI.out.2.1.below bself).below b5, (HI.out.2.2.1.below bself).below b5⟩ : _ ∧ _ ∧ _)
      obtain ⟨hc, hf, hzz⟩ := bcell b5
      have y0 : w5.cell? ⟨wr.heap.size, 0, none⟩ = some (.int .i64 m) := (hc _ _ (by simp)).trans (by simp [go_sem])
      have y2 : w5.cell? ⟨wr.heap.size, 2, none⟩ = some (.int .i64 yo) := (hc _ _ (by simp)).trans (by simp [go_sem])
      have z0 : w5.cell? ⟨w.heap.size + 1 + 1 + 1, 0, none⟩ = some (.int .i64 s) := (hc _ _ (by simp; omega)).trans (by simp [go_sem, l3, s0])
      have z1 : w5.cell? ⟨w.heap.size + 1 + 1 + 1, 1, none⟩ = some (.int .i64 q) := (hc _ _ (by simp; omega)).trans (by simp [go_sem, l3, s1])
      have zf : ∀ o, w5.frozen? ⟨w.heap.size + 1 + 1 + 1, o, none⟩ = false := fun o => (hf _ _ (by simp; omega)).trans (((bself (w := wr) (o := _)).frozen (p := ⟨w.heap.size + 1 + 1 + 1, o, none⟩) l3).trans (HI.out.2.2.2.2.2 o))
      have ly : wr.heap.size < w5.heap.size := hzz _ (by simp)
      have cm := HI5.out.2.2.cell m hm
      have fm := HI5.out.2.2.free m
      have fm0 := zf 0
      have fm1 := zf 1
      have n2 : wr.heap.size ≠ w.heap.size + 1 + 1 := by omega
      have n3 : wr.heap.size ≠ w.heap.size + 1 + 1 + 1 := by omega
      have HZF := Lib.hid zf
      clear hc hf hzz b5 s0 s1 c0 c1 c2 c3 c4 c5 c6 c7 c8 c9 c10 k0 k1 k2 HI zf
      by_cases hz : zs = m ∧ zp = yi
      · obtain ⟨rfl, rfl⟩ := hz
        have hcc : cnt ss m = 0 ∨ cnt ss m = 1 := by
          have h1 := HC1.out m
          have h2 : 0 ≤ cnt ss m := by unfold cnt; omega
          omega
        rcases hcc with h0 | h0
        · rw [h0] at cm
          have hct : ss.contains (m : Int) = false := by
            cases h : ss.contains (m : Int) with
            | false => rfl
            | true => have := (cnt_pos ss m).2 h; omega
          have hr2 := HRN.out
          rw [hct] at hr2
          have HR2 := Lib.hid hr2
          have HCT := Lib.hid h0
          clear hr2 hct h0
          go_wp2
          go_roundw
          case rel =>
            refine ⟨n + 1, m, yo, (m : Int) :: ss, by omega, by go_num, Lib.hid ⟨?_, ?_, ?_, by simp [go_sem, z0], by simp [go_sem, z1], fun o => by simp only [World.frozen?_setCell]; exact HZF.out o⟩, Lib.hid (fun j => ?_), Lib.hid (HR2.out.trans (by simp))⟩
            · repeat refine Below.setCell ?_ (by dsimp only; omega) _
              exact HI5.out.1
            · exact ((HI5.out.2.1.set (by omega)).set (by omega)).set (by omega)
            · have hmr := HI5.out.2.2.more hm
              rw [HCT.out] at hmr
              exact (hmr.other (by omega)).other (by omega)
            · rw [cnt_cons]
              by_cases e : (m : Int) = (j : Int)
              · obtain rfl : m = j := by omega
                rw [if_pos rfl, HCT.out]
                omega
              · rw [if_neg e]
                exact HC1.out j
          case measure => simp [intOf]; omega
        · rw [h0] at cm
          have hct : ss.contains (m : Int) = true := (cnt_pos ss m).1 (by omega)
          have hrf : r = false := by
            have := HRN.out
            rw [hct] at this
            simpa using this
          clear h0 hct
          subst hrf
          go_wp2
          refine wp_goto ?_
          refine ⟨rfl, ?_⟩
          go_wp2
          rw [Exit.noGoto_ret]
          refine bodyPost_ret (v := .bool false) (by simp [results, Tryd.results27, go_sem]) rfl ⟨rfl, ?_⟩
          repeat refine Below.setCell ?_ (by dsimp only; omega) _
          exact HI5.out.1
      · have hrf : r = false := by
          have := HRN.out
          rw [decide_eq_false (by simpa using hz)] at this
          simpa using this
        subst hrf
        by_cases hz1 : zs = m
        · subst hz1
          have hz2 : ¬ zp = yi := fun h => hz ⟨rfl, h⟩
          have hd : decide (zp = yi) = false := decide_eq_false hz2
          clear hz
          go_wp2
          all_goals
            first
              | (exfalso; have hA : (!decide True) = false ∧ (!decide (zp = yi)) = false := by assumption
                 simp [hd] at hA)
              | (refine wp_goto ?_
                 refine ⟨rfl, ?_⟩
                 go_wp2
                 rw [Exit.noGoto_ret]
                 refine bodyPost_ret (v := .bool false) (by simp [results, Tryd.results27, go_sem]) rfl ⟨rfl, ?_⟩
                 exact HI5.out.1)
        · have hd : decide (zs = m) = false := decide_eq_false hz1
          clear hz
          go_wp2
          all_goals
            first
              | (exfalso; have hA : (!decide (zs = (m : Int))) = false ∧ (!decide (zp = yi)) = false := by assumption
                 simp [hd] at hA)
              | (refine wp_goto ?_
                 refine ⟨rfl, ?_⟩
                 go_wp2
                 rw [Exit.noGoto_ret]
                 refine bodyPost_ret (v := .bool false) (by simp [results, Tryd.results27, go_sem]) rfl ⟨rfl, ?_⟩
                 exact HI5.out.1)
    · obtain rfl : n = len := by omega
      have hrt : r = true := by
        have := HR.out
        rw [List.drop_eq_nil_of_le (by have := HLN.out; omega)] at this
        exact this
      subst hrt
      go_wp2
      rw [Exit.fwd_ret]
      refine bodyPost_ret (v := .bool true) (by simp [results, Tryd.results27, go_sem]) rfl ⟨rfl, ?_⟩
      exact HI.out.1
end Go.Proofs.YtmnkgnoljllnnaaDoor

/-
  slices.Min, slices.Max at []int.
-/
namespace Go.Proofs.YtmnkgnoljllnnaaDoor
open Go.RowKit Go.Shelf

def MinOf (zs : List Int) (w : World) (e : Ending) (w' : World) : Prop := ∃ m, e = .returned (.int .i64 m) ∧ m ∈ zs ∧ (∀ z ∈ zs, m ≤ z) ∧ w = w'
def MaxOf (zs : List Int) (w : World) (e : Ending) (w' : World) : Prop := ∃ m, e = .returned (.int .i64 m) ∧ m ∈ zs ∧ (∀ z ∈ zs, z ≤ m) ∧ w = w'
theorem more_min {zs : List Int} {n : Nat} {m z x : Int} (hz : zs[n]? = some z) (h1 : m ∈ zs) (h2 : ∀ (j : Nat) y, j < n → zs[j]? = some y → m ≤ y) (hx : x = m ∨ x = z) (hy : x ≤ m ∧ x ≤ z) : x ∈ zs ∧ ∀ (j : Nat) y, j < n + 1 → zs[j]? = some y → x ≤ y := by
  refine ⟨?_, fun j y hj hjy => ?_⟩
  · rcases hx with rfl | rfl
    · exact h1
    · exact List.mem_of_getElem? hz
  · by_cases e : j = n
    · subst e
      rw [hz] at hjy
      cases hjy
      omega
    · have := h2 j y (by omega) hjy
      omega
theorem more_max {zs : List Int} {n : Nat} {m z x : Int} (hz : zs[n]? = some z) (h1 : m ∈ zs) (h2 : ∀ (j : Nat) y, j < n → zs[j]? = some y → y ≤ m) (hx : x = m ∨ x = z) (hy : m ≤ x ∧ z ≤ x) : x ∈ zs ∧ ∀ (j : Nat) y, j < n + 1 → zs[j]? = some y → y ≤ x := by
  refine ⟨?_, fun j y hj hjy => ?_⟩
  · rcases hx with rfl | rfl
    · exact h1
    · exact List.mem_of_getElem? hz
  · by_cases e : j = n
    · subst e
      rw [hz] at hjy
      cases hjy
      omega
    · have := h2 j y (by omega) hjy
      omega

set_option maxRecDepth 100000 in
set_option maxHeartbeats 2000000 in
theorem min_any (b cap : Nat) (zs : List Int) (w : World) (hc : ∀ (j : Nat) (z : Int), zs[j]? = some z → w.cell? ⟨b, j, none⟩ = some (.int .i64 z)) (h1 : 0 < zs.length) (hm : zs.length ≤ 9223372036854775807) :
    Calls Tryd.prog 46 #[.slice (some ⟨b, 0, none⟩) zs.length cap] w (MinOf zs w) := by
  obtain ⟨len, hlen⟩ : ∃ len, len = zs.length := ⟨_, rfl⟩
  rw [← hlen] at hm h1 ⊢
  have HC := Lib.hid hc
  have HL := Lib.hid hlen
  obtain ⟨z0, hz0⟩ : ∃ z, zs[0]? = some z := ⟨zs[0]'(by omega), List.getElem?_eq_getElem _⟩
  have c0 := hc 0 z0 hz0
  have HZ := Lib.hid hz0
  clear hc hlen hz0
  have hd : decide ((len : Int) < 1) = false := decide_eq_false (by omega)
  have hd1 : ¬ (len : Int) < 1 := by omega
  have hd2 : 0 < len := h1
  go_enter Tryd.func46, Tryd.ntmps46
  go_wp2_with fail
  go_loop [3, 4] (fun s3 s4 => ∃ (n : Nat) (m : Int), 1 ≤ n ∧ n ≤ len ∧ s4 = .int .i64 n ∧ s3 = .int .i64 m ∧ Hid (m ∈ zs ∧ ∀ (j : Nat) z, j < n → zs[j]? = some z → m ≤ z)) (fun _ s4 => len - (intOf s4).toNat)
  case atStart =>
    refine ⟨1, z0, by omega, by omega, rfl, rfl, Lib.hid ⟨List.mem_of_getElem? HZ.out, fun j z hj hz => ?_⟩⟩
    obtain rfl : j = 0 := by omega
    rw [HZ.out] at hz
    cases hz
    omega
  case round =>
    obtain ⟨n, m, hn1, hn, rfl, rfl, HM⟩ := hrel
    clear c0
    by_cases hlt : n < len
    · obtain ⟨z, hz⟩ : ∃ z, zs[n]? = some z := ⟨zs[n]'(by rw [← HL.out]; exact hlt), List.getElem?_eq_getElem _⟩
      have c := HC.out n z hz
      have HZn := Lib.hid hz
      clear hz
      have cs : m ≤ z ∨ z < m := by omega
      rcases cs with h | h
      all_goals
        go_wp2
        go_round
        case rel =>
          refine ⟨n + 1, _, by omega, by omega, by go_num, rfl, Lib.hid ?_⟩
          refine more_min HZn.out HM.out.1 HM.out.2 ?_ ?_
          · first | exact .inl rfl | exact .inr rfl | (split <;> simp)
          · first | (split <;> omega) | omega
        case measure => simp [intOf]; omega
    · obtain rfl : n = len := by omega
      go_wp2
      go_ret
      refine ⟨m, rfl, HM.out.1, fun z hz => ?_, rfl⟩
      obtain ⟨j, hj, e⟩ := List.mem_iff_getElem.1 hz
      exact HM.out.2 j z (by rw [HL.out]; exact hj) (by rw [← e]; exact List.getElem?_eq_getElem hj)

set_option maxRecDepth 100000 in
set_option maxHeartbeats 2000000 in
theorem max_any (b cap : Nat) (zs : List Int) (w : World) (hc : ∀ (j : Nat) (z : Int), zs[j]? = some z → w.cell? ⟨b, j, none⟩ = some (.int .i64 z)) (h1 : 0 < zs.length) (hm : zs.length ≤ 9223372036854775807) :
    Calls Tryd.prog 47 #[.slice (some ⟨b, 0, none⟩) zs.length cap] w (MaxOf zs w) := by
  obtain ⟨len, hlen⟩ : ∃ len, len = zs.length := ⟨_, rfl⟩
  rw [← hlen] at hm h1 ⊢
  have HC := Lib.hid hc
  have HL := Lib.hid hlen
  obtain ⟨z0, hz0⟩ : ∃ z, zs[0]? = some z := ⟨zs[0]'(by omega), List.getElem?_eq_getElem _⟩
  have c0 := hc 0 z0 hz0
  have HZ := Lib.hid hz0
  clear hc hlen hz0
  have hd : decide ((len : Int) < 1) = false := decide_eq_false (by omega)
  have hd1 : ¬ (len : Int) < 1 := by omega
  have hd2 : 0 < len := h1
  go_enter Tryd.func47, Tryd.ntmps47
  go_wp2_with fail
  go_loop [3, 4] (fun s3 s4 => ∃ (n : Nat) (m : Int), 1 ≤ n ∧ n ≤ len ∧ s4 = .int .i64 n ∧ s3 = .int .i64 m ∧ Hid (m ∈ zs ∧ ∀ (j : Nat) z, j < n → zs[j]? = some z → z ≤ m)) (fun _ s4 => len - (intOf s4).toNat)
  case atStart =>
    refine ⟨1, z0, by omega, by omega, rfl, rfl, Lib.hid ⟨List.mem_of_getElem? HZ.out, fun j z hj hz => ?_⟩⟩
    obtain rfl : j = 0 := by omega
    rw [HZ.out] at hz
    cases hz
    omega
  case round =>
    obtain ⟨n, m, hn1, hn, rfl, rfl, HM⟩ := hrel
    clear c0
    by_cases hlt : n < len
    · obtain ⟨z, hz⟩ : ∃ z, zs[n]? = some z := ⟨zs[n]'(by rw [← HL.out]; exact hlt), List.getElem?_eq_getElem _⟩
      have c := HC.out n z hz
      have HZn := Lib.hid hz
      clear hz
      have cs : m ≤ z ∨ z < m := by omega
      rcases cs with h | h
      all_goals
        go_wp2
        go_round
        case rel =>
          refine ⟨n + 1, _, by omega, by omega, by go_num, rfl, Lib.hid ?_⟩
          refine more_max HZn.out HM.out.1 HM.out.2 ?_ ?_
          · first | exact .inl rfl | exact .inr rfl | (split <;> simp)
          · first | (split <;> omega) | omega
        case measure => simp [intOf]; omega
    · obtain rfl : n = len := by omega
      go_wp2
      go_ret
      refine ⟨m, rfl, HM.out.1, fun z hz => ?_, rfl⟩
      obtain ⟨j, hj, e⟩ := List.mem_iff_getElem.1 hz
      exact HM.out.2 j z (by rw [HL.out]; exact hj) (by rw [← e]; exact List.getElem?_eq_getElem hj)
end Go.Proofs.YtmnkgnoljllnnaaDoor

/-
  layout.Right.
-/
namespace Go.Proofs.YtmnkgnoljllnnaaDoor
open Go.RowKit Go.Shelf
attribute [local go_sem] Oper.semAt_some

def sizesT (L : Lay) : Bool := decide (L.secs.length ≤ 24) && decide (L.sigs.length ≤ 12) && decide (L.exits.length ≤ 12) && decide (L.flanks.length ≤ 16)
def Lay.times (L : Lay) : List Int := [L.t0, L.t1, L.t2, L.t3, L.t4, L.t5, L.t6]
def timesT (L : Lay) : Bool := L.times.all fun t => decide (1 ≤ t) && decide (t ≤ 1000)
def overT (L : Lay) (x : Ext') : Bool := decide (x.over.length ≤ 2) && x.over.all (fun s => stepB L s.s s.i s.o)
def portsT (L : Lay) : Bool := (portsL L).all (fun x => hasB L x.s x.p)
def rightL (L : Lay) : Bool := sizesT L && timesT L && L.secs.all rightT && L.flanks.all (flankT L) && portsT L && L.exits.all (overT L)
theorem any_not {α : Type} (f : α → Bool) (xs : List α) : xs.any (fun x => !f x) = !xs.all f := by
  induction xs with
  | nil => rfl
  | cons x xs ih => simp [ih]
theorem times_min {L : Lay} {m : Int} (h1 : m ∈ L.times) (h2 : ∀ z ∈ L.times, m ≤ z) {k : Int} (h3 : k ∈ L.times) (h4 : ∀ z ∈ L.times, z ≤ k) : timesT L = (decide (1 ≤ m) && decide (k ≤ 1000)) := by
  unfold timesT
  rw [Bool.eq_iff_iff]
  simp only [List.all_eq_true, Bool.and_eq_true, decide_eq_true_iff]
  constructor
  · intro h; exact ⟨(h m h1).1, (h k h3).2⟩
  · intro h z hz
    have := h2 z hz
    have := h4 z hz
    omega

theorem ports_stops (L : Lay) (p : Where) (g : Nat) (w : World) (hL : LayAt w p L) (hB : Box w g L p) :
    SeqStopsK Fence.wide 4 Tryd.prog 74 #[.pointer (some ⟨g, 0, none⟩)] (fun x : Prt => #[.agg #[.int .i64 x.s, .int .i64 x.p]]) (KeepsE NoB NoT w.heap.size) (fun ys => ys = portsL L) (fun pre => pre <+: portsL L) (portsL L).length w := by
  intro l J Jx W hW hJ _ hY hJ0
  exact ports1_in l g w.heap.size L p J Jx W hJ hY (hL.below hW) (hB.below hW) hJ0

/-- What Right's loop over the ports leaves. -/
def PI (L : Lay) (pre : List Prt) : Prop := ∀ x ∈ pre, hasB L x.s x.p = true
def PX (L : Lay) (c : Code) (pre : List Prt) : Prop := c = .goto 0 ∧ ∃ x ∈ pre, hasB L x.s x.p = false

set_option maxRecDepth 100000 in
set_option maxHeartbeats 16000000 in
theorem rightLay_any (L : Lay) (p : Where) (w : World) (hL : LayAt w p L) (K : Kinds w) :
    Calls Tryd.prog 21 #[L.val p] w fun e w' => e = .returned (.bool (rightL L)) ∧ Below w.heap.size w w' := by
  have hr : (sizesT L = true → timesT L = true → L.secs.all rightT = true → L.flanks.all (flankT L) = true → portsT L = true → rightL L = L.exits.all (overT L)) ∧
      (sizesT L = false → rightL L = false) ∧ (timesT L = false → rightL L = false) ∧ (L.secs.all rightT = false → rightL L = false) ∧ (L.flanks.all (flankT L) = false → rightL L = false) ∧ (portsT L = false → rightL L = false) := by
    unfold rightL
    refine ⟨fun h1 h2 h3 h4 h5 => by simp [h1, h2, h3, h4, h5], fun h => by simp [h], fun h => by simp [h], fun h => by simp [h], fun h => by simp [h], fun h => by simp [h]⟩
  generalize rightL L = r at hr ⊢
  have m0 : L.secs.length ≤ 9223372036854775807 := Nat.le_trans hL.l0.1 hL.l0.2
  have m1 : L.sigs.length ≤ 9223372036854775807 := Nat.le_trans hL.l1.1 hL.l1.2
  have m2 : L.exits.length ≤ 9223372036854775807 := Nat.le_trans hL.l2.1 hL.l2.2
  have m3 : L.flanks.length ≤ 9223372036854775807 := Nat.le_trans hL.l3.1 hL.l3.2
  obtain ⟨a0, a1, a2, a3, p0, p1, p2, p3⟩ := p
  have HR := Lib.hid hr
  have HL := Lib.hid hL
  have KH := Lib.hid K
  clear hr hL K
  refine calls_marked w.heap.size Tryd.func21 rfl ?_
  simp only [Tryd.ntmps21, List.size_toArray, List.length_cons, List.length_nil, Nat.reduceAdd, Nat.reduceSub, Array.replicate_succ, Array.replicate_zero, List.push_toArray, List.append_toArray, List.nil_append, List.cons_append]
  go_wp2_with fail
  refine wp_scope_fwd 0 rfl ?_
  go_upto_region 6 with fail
  obtain ⟨X, hX⟩ : ∃ X, X = ((w.alloc (.cells #[.slice a0 L.secs.length p0, .slice a1 L.sigs.length p1, .slice a2 L.exits.length p2, .slice a3 L.flanks.length p3, .int .i64 L.t0, .int .i64 L.t1, .int .i64 L.t2, .int .i64 L.t3, .int .i64 L.t4, .int .i64 L.t5, .int .i64 L.t6] 29)).alloc (.cells #[.int .i64 L.t0, .int .i64 L.t1, .int .i64 L.t2, .int .i64 L.t3, .int .i64 L.t4, .int .i64 L.t5, .int .i64 L.t6] 27)).alloc (.cells #[.int .i64 L.t0, .int .i64 L.t1, .int .i64 L.t2, .int .i64 L.t3, .int .i64 L.t4, .int .i64 L.t5, .int .i64 L.t6] 3) := ⟨_, rfl⟩
  have hB : Below w.heap.size w X := by rw [hX]; exact bchain (bchain bself bself) bself
  have hsz : X.heap.size = w.heap.size + 3 := by rw [hX]; simp
  have hBox : Box X w.heap.size L ⟨a0, a1, a2, a3, p0, p1, p2, p3⟩ := by
    refine ⟨by omega, fun i v hv => ?_⟩
    rw [hX]
    simpa [go_sem, Lay.cells] using hv
  have hT : ∀ (j : Nat) (z : Int), L.times[j]? = some z → X.cell? ⟨w.heap.size + 1 + 1, j, none⟩ = some (.int .i64 z) := by
    intro j z hz
    rw [hX]
    have hl : j < 7 := (List.getElem?_eq_some_iff.1 hz).1
    have : j = 0 ∨ j = 1 ∨ j = 2 ∨ j = 3 ∨ j = 4 ∨ j = 5 ∨ j = 6 := by omega
    rcases this with rfl | rfl | rfl | rfl | rfl | rfl | rfl <;> (cases hz; simp [go_sem])
  rw [← hX]
  have HBX := Lib.hid hB
  have HBo := Lib.hid hBox
  have HT := Lib.hid hT
  have lX : w.heap.size < X.heap.size := by omega
  have c0 : X.cell? ⟨w.heap.size, 0, none⟩ = some (.slice a0 L.secs.length p0) := hBox.2 0 _ rfl
  have c1 : X.cell? ⟨w.heap.size, 1, none⟩ = some (.slice a1 L.sigs.length p1) := hBox.2 1 _ rfl
  have c2 : X.cell? ⟨w.heap.size, 2, none⟩ = some (.slice a2 L.exits.length p2) := hBox.2 2 _ rfl
  have c3 : X.cell? ⟨w.heap.size, 3, none⟩ = some (.slice a3 L.flanks.length p3) := hBox.2 3 _ rfl
  clear hX hB hsz hBox hT
  by_cases h0 : 24 < L.secs.length ∨ 12 < L.sigs.length ∨ 12 < L.exits.length ∨ 16 < L.flanks.length
  · obtain rfl : r = false := HR.out.2.1 (by unfold sizesT; simp; omega)
    have h0' : (24 : Int) < L.secs.length ∨ (12 : Int) < L.sigs.length ∨ (12 : Int) < L.exits.length ∨ (16 : Int) < L.flanks.length := by omega
    clear h0
    go_wp2_with fail
    all_goals
      first
        | (exfalso; omega)
        | (
           refine wp_goto ?_
           refine ⟨rfl, ?_⟩
           go_wp2
           rw [Exit.noGoto_ret]
           exact ⟨⟨[], Marked.nil _ _⟩, fun w' hb hk => ⟨.bool false, by simp [results, Tryd.results21, go_sem], rfl, (HBX.out).trans hb⟩⟩)
  · have hs : sizesT L = true := by unfold sizesT; simp; omega
    have HS := Lib.hid hs
    have d0 : decide ((24 : Int) < (L.secs.length : Int)) = false := decide_eq_false (by omega)
    have d1 : decide ((12 : Int) < (L.sigs.length : Int)) = false := decide_eq_false (by omega)
    have d2 : decide ((12 : Int) < (L.exits.length : Int)) = false := decide_eq_false (by omega)
    have d3 : decide ((16 : Int) < (L.flanks.length : Int)) = false := decide_eq_false (by omega)
    clear h0 hs
    have hmin : Calls Tryd.prog 46 #[.slice (some ⟨w.heap.size + 1 + 1, 0, none⟩) 7 7] X (MinOf L.times X) := min_any (w.heap.size + 1 + 1) 7 L.times X HT.out (by simp [Lay.times]) (by simp [Lay.times])
    have hmax : Calls Tryd.prog 47 #[.slice (some ⟨w.heap.size + 1 + 1, 0, none⟩) 7 7] X (MaxOf L.times X) := max_any (w.heap.size + 1 + 1) 7 L.times X HT.out (by simp [Lay.times]) (by simp [Lay.times])
    have hcs : ∀ W, Below X.heap.size X W → Calls Tryd.prog 48 #[.slice a0 L.secs.length p0, .func (.func 39) #[] #[]] W fun e w' => e = .returned (.bool (L.secs.any (fun c => !rightT c))) ∧ Below W.heap.size W w' := fun W hW =>
      containsSection_any 39 #[] (enters_of Tryd.func39 (by kernel_rfl) rfl) (fun c => !rightT c) a0 p0 L.secs W (HL.out.below (bchain HBX.out hW)).secs HL.out.l0.1 HL.out.l0.2
        (fun W' c hc hb => by simpa using right1_any c (HL.out.kinds c hc).1 (HL.out.kinds c hc).2 W' (KH.out.below (bchain (bchain HBX.out hW) hb)))
    have hcf : ∀ W, Below X.heap.size X W → Calls Tryd.prog 49 #[.slice a3 L.flanks.length p3, .func (.func 43) #[] #[.pointer (some ⟨w.heap.size, 0, none⟩)]] W fun e w' => e = .returned (.bool (L.flanks.any (fun c => !flankT L c))) ∧ Below W.heap.size W w' := fun W hW =>
      containsFlank_any 43 #[.pointer (some ⟨w.heap.size, 0, none⟩)] (enters_of Tryd.func43 (by kernel_rfl) rfl) (fun c => !flankT L c) a3 p3 L.flanks W (HL.out.below (bchain HBX.out hW)).flanks HL.out.l3.1 HL.out.l3.2
        (fun W' c _ hb => right3_any L ⟨a0, a1, a2, a3, p0, p1, p2, p3⟩ c w.heap.size W' (HL.out.below (bchain (bchain HBX.out hW) hb)) (KH.out.below (bchain (bchain HBX.out hW) hb)) (HBo.out.below (bchain hW hb)))
    rw [any_not] at hcs hcf
    obtain ⟨q1, hq1⟩ : ∃ q, q = L.secs.all rightT := ⟨_, rfl⟩
    obtain ⟨q2, hq2⟩ : ∃ q, q = L.flanks.all (flankT L) := ⟨_, rfl⟩
    rw [← hq1] at hcs
    rw [← hq2] at hcf
    rw [← hq1, ← hq2] at HR
    have HMIN := Lib.hid hmin
    have HMAX := Lib.hid hmax
    have HCS := Lib.hid hcs
    have HCF := Lib.hid hcf
    clear hmin hmax hcs hcf hq1 hq2
    go_wp2_with fail
    (with_reducible refine HMIN.out.mono ?_)
    rintro e w1 ⟨m, rfl, hm1, hm2, rfl⟩
    have HM := Lib.hid (⟨hm1, hm2⟩ : _ ∧ _)
    clear hm1 hm2
    by_cases g1 : m < 1
    · obtain rfl : r = false := HR.out.2.2.1 (by
        unfold timesT
        rw [List.all_eq_false]
        exact ⟨m, HM.out.1, by simp; omega⟩)
      go_wp2_with fail
      refine wp_goto ?_
      refine ⟨rfl, ?_⟩
      go_wp2
      rw [Exit.noGoto_ret]
      exact ⟨⟨[], Marked.nil _ _⟩, fun w' hb hk => ⟨.bool false, by simp [results, Tryd.results21, go_sem], rfl, (HBX.out).trans hb⟩⟩
    · have e1 : decide (m < 1) = false := decide_eq_false g1
      go_wp2_with fail
      (with_reducible refine HMAX.out.mono ?_)
      rintro e w1 ⟨k, rfl, hk1, hk2, rfl⟩
      have HK := Lib.hid (⟨hk1, hk2⟩ : _ ∧ _)
      clear hk1 hk2
      by_cases g2 : 1000 < k
      · obtain rfl : r = false := HR.out.2.2.1 (by
          unfold timesT
          rw [List.all_eq_false]
          exact ⟨k, HK.out.1, by simp; omega⟩)
        have e2 : decide ((1000 : Int) < k) = true := decide_eq_true g2
        go_wp2_with fail
        refine wp_goto ?_
        refine ⟨rfl, ?_⟩
        go_wp2
        rw [Exit.noGoto_ret]
        exact ⟨⟨[], Marked.nil _ _⟩, fun w' hb hk => ⟨.bool false, by simp [results, Tryd.results21, go_sem], rfl, (HBX.out).trans hb⟩⟩
      · have e2 : decide ((1000 : Int) < k) = false := decide_eq_false g2
        have ht : timesT L = true := by
          rw [times_min HM.out.1 HM.out.2 HK.out.1 HK.out.2]
          simp
          omega
        have HTT := Lib.hid ht
        clear ht
        go_wp2_with fail
        (with_reducible refine (HCS.out _ (Below.refl _ _)).mono ?_)
        rintro e W1 ⟨rfl, b1⟩
        cases q1 with
        | false =>
          obtain rfl : r = false := HR.out.2.2.2.1 rfl
          have B1 := bchain HBX.out b1
          clear b1
          go_wp2_with fail
          refine wp_goto ?_
          refine ⟨rfl, ?_⟩
          go_wp2
          rw [Exit.noGoto_ret]
          exact ⟨⟨[], Marked.nil _ _⟩, fun w' hb hk => ⟨.bool false, by simp [results, Tryd.results21, go_sem], rfl, (B1).trans hb⟩⟩
        | true =>
          have HB1 := Lib.hid b1
          have lX1 : w.heap.size < W1.heap.size := Nat.lt_of_lt_of_le lX b1.size
          have x3 := (b1.cell (p := ⟨w.heap.size, 3, none⟩) lX).trans c3
          clear b1 c0 c1 c2 c3
          go_wp2_with fail
          (with_reducible refine (HCF.out _ HB1.out).mono ?_)
          rintro e W2 ⟨rfl, b2⟩
          have HB2 := Lib.hid (bchain HB1.out b2)
          have lX2 : w.heap.size < W2.heap.size := Nat.lt_of_lt_of_le lX1 b2.size
          clear b2 x3 HB1
          cases q2 with
          | false =>
            obtain rfl : r = false := HR.out.2.2.2.2.1 rfl
            have B1 := bchain HBX.out HB2.out
            go_wp2_with fail
            refine wp_goto ?_
            refine ⟨rfl, ?_⟩
            go_wp2
            rw [Exit.noGoto_ret]
            exact ⟨⟨[], Marked.nil _ _⟩, fun w' hb hk => ⟨.bool false, by simp [results, Tryd.results21, go_sem], rfl, (B1).trans hb⟩⟩
          | true =>
            have hbox2 := HBo.out.below HB2.out
            have c0 : W2.cell? ⟨w.heap.size, 0, none⟩ = some (.slice a0 L.secs.length p0) := hbox2.2 0 _ rfl
            have c1 : W2.cell? ⟨w.heap.size, 1, none⟩ = some (.slice a1 L.sigs.length p1) := hbox2.2 1 _ rfl
            have c2 : W2.cell? ⟨w.heap.size, 2, none⟩ = some (.slice a2 L.exits.length p2) := hbox2.2 2 _ rfl
            have c3 : W2.cell? ⟨w.heap.size, 3, none⟩ = some (.slice a3 L.flanks.length p3) := hbox2.2 3 _ rfl
            have c4 : W2.cell? ⟨w.heap.size, 4, none⟩ = some (.int .i64 L.t0) := hbox2.2 4 _ rfl
            have c5 : W2.cell? ⟨w.heap.size, 5, none⟩ = some (.int .i64 L.t1) := hbox2.2 5 _ rfl
            have c6 : W2.cell? ⟨w.heap.size, 6, none⟩ = some (.int .i64 L.t2) := hbox2.2 6 _ rfl
            have c7 : W2.cell? ⟨w.heap.size, 7, none⟩ = some (.int .i64 L.t3) := hbox2.2 7 _ rfl
            have c8 : W2.cell? ⟨w.heap.size, 8, none⟩ = some (.int .i64 L.t4) := hbox2.2 8 _ rfl
            have c9 : W2.cell? ⟨w.heap.size, 9, none⟩ = some (.int .i64 L.t5) := hbox2.2 9 _ rfl
            have c10 : W2.cell? ⟨w.heap.size, 10, none⟩ = some (.int .i64 L.t6) := hbox2.2 10 _ rfl
            have hpf := ports_fn L ⟨a0, a1, a2, a3, p0, p1, p2, p3⟩ W2
            unfold Lay.val at hpf
            have HPF := Lib.hid hpf
            clear hbox2 hpf
            go_wp2_with fail
            (with_reducible refine HPF.out.mono ?_)
            rintro e W3 ⟨rfl, rfl⟩
            go_wp2_with fail
            have hBV : Below w.heap.size w (W2.alloc (.cells (L.cells ⟨a0, a1, a2, a3, p0, p1, p2, p3⟩).toArray 29)) := bchain (bchain HBX.out HB2.out) bself
            have hbV : Box (W2.alloc (.cells (L.cells ⟨a0, a1, a2, a3, p0, p1, p2, p3⟩).toArray 29)) W2.heap.size L ⟨a0, a1, a2, a3, p0, p1, p2, p3⟩ := ⟨by simp, fun i v hv => by simpa [go_sem] using hv⟩
            have hbo : Box (W2.alloc (.cells (L.cells ⟨a0, a1, a2, a3, p0, p1, p2, p3⟩).toArray 29)) w.heap.size L ⟨a0, a1, a2, a3, p0, p1, p2, p3⟩ := HBo.out.below (bchain HB2.out bself)
            have hlV : W2.heap.size + 1 = (W2.alloc (.cells (L.cells ⟨a0, a1, a2, a3, p0, p1, p2, p3⟩).toArray 29)).heap.size := by simp
            generalize (W2.alloc (.cells (L.cells ⟨a0, a1, a2, a3, p0, p1, p2, p3⟩).toArray 29)) = V at hBV hbV hbo hlV ⊢
            have HBV := Lib.hid hBV
            have HBO := Lib.hid hbo
            have HLV := Lib.hid (HL.out.below hBV)
            have HKV := Lib.hid (KH.out.below hBV)
            have hlw : w.heap.size ≤ V.heap.size := hBV.size
            clear c0 c1 c2 c3 c4 c5 c6 c7 c8 c9 c10 HPF HB2
            refine wp_range_box (gf := 74) (lb := #[.pointer (some ⟨W2.heap.size, 0, none⟩)]) rfl (enters_of Tryd.func74 (by kernel_rfl) rfl) (fun x : Prt => x.enc) 8
              (ports_stops L ⟨a0, a1, a2, a3, p0, p1, p2, p3⟩ W2.heap.size _ HLV.out hbV) (fun _ => rfl) (PI L) (PX L) (fun _ h => (by cases h)) ?assign ?body ?done ?stop
            case assign =>
              intro l x W Kn hK
              gi_wp2
              refine hK _ _ bself ⟨W.heap.size, by first | rfl | simp [go_sem], by simp, fun i v hv => ?_⟩
              simpa [go_sem, Prt.enc] using hv
            case body =>
              rintro l pre x bx W hb hi lbx hcs hlen
              have k0 : W.cell? ⟨bx, 0, none⟩ = some (.int .i64 x.s) := hcs 0 _ rfl
              have k1 : W.cell? ⟨bx, 1, none⟩ = some (.int .i64 x.p) := hcs 1 _ rfl
              clear hcs
              have hbx := HBO.out.below hb
              have lg := hbx.1
              have c0 : W.cell? ⟨w.heap.size, 0, none⟩ = some (.slice a0 L.secs.length p0) := hbx.2 0 _ rfl
              have c1 : W.cell? ⟨w.heap.size, 1, none⟩ = some (.slice a1 L.sigs.length p1) := hbx.2 1 _ rfl
              have c2 : W.cell? ⟨w.heap.size, 2, none⟩ = some (.slice a2 L.exits.length p2) := hbx.2 2 _ rfl
              have c3 : W.cell? ⟨w.heap.size, 3, none⟩ = some (.slice a3 L.flanks.length p3) := hbx.2 3 _ rfl
              have c4 : W.cell? ⟨w.heap.size, 4, none⟩ = some (.int .i64 L.t0) := hbx.2 4 _ rfl
              have c5 : W.cell? ⟨w.heap.size, 5, none⟩ = some (.int .i64 L.t1) := hbx.2 5 _ rfl
              have c6 : W.cell? ⟨w.heap.size, 6, none⟩ = some (.int .i64 L.t2) := hbx.2 6 _ rfl
              have c7 : W.cell? ⟨w.heap.size, 7, none⟩ = some (.int .i64 L.t3) := hbx.2 7 _ rfl
              have c8 : W.cell? ⟨w.heap.size, 8, none⟩ = some (.int .i64 L.t4) := hbx.2 8 _ rfl
              have c9 : W.cell? ⟨w.heap.size, 9, none⟩ = some (.int .i64 L.t5) := hbx.2 9 _ rfl
              have c10 : W.cell? ⟨w.heap.size, 10, none⟩ = some (.int .i64 L.t6) := hbx.2 10 _ rfl
              have hat := at_any L ⟨a0, a1, a2, a3, p0, p1, p2, p3⟩ x.s x.p W (HLV.out.below hb) (HKV.out.below hb)
              have hh : hasB L x.s x.p = (atO L x.s x.p).isSome := rfl
              unfold Lay.val atV Sec.enc at hat
              obtain ⟨xs, xp⟩ := x
              dsimp only at k0 k1 hat hh
              generalize (atO L xs xp).getD zeroSec = z at hat
              generalize (atO L xs xp).isSome = y at hat hh
              have HAT := Lib.hid hat
              have HH := Lib.hid hh
              have HI := Lib.hid hi
              clear hbx hat hh hi
              gi_wp2_with fail
              refine ⟨trivial, (callsIn_wide.2 HAT.out).mono ?_⟩
              rintro e W4 ⟨rfl, b4⟩
              cases y with
              | true =>
                gi_wp2
                refine ⟨bchain b4 bself, fun t ht => ?_⟩
                rcases List.mem_append.1 ht with ht | ht
                · exact HI.out t ht
                · rw [List.mem_singleton.1 ht]; exact HH.out
              | false =>
                gi_wp2
                refine wpIn_goto ?_
                exact ⟨bchain b4 bself, rfl, ⟨xs, xp⟩, by simp, HH.out⟩
            case stop =>
              rintro D c pre W hD hS hw ⟨rfl, x, hx, hf⟩ hK
              obtain rfl : r = false := HR.out.2.2.2.2.2 (by
                unfold portsT
                rw [List.all_eq_false]
                exact ⟨x, hS.subset hx, by rw [hf]; simp⟩)
              have hB := bchain HBV.out hw
              refine wp_goto ?_
              refine ⟨rfl, ?_⟩
              dsimp only
              go_wp2
              try rw [Exit.noGoto_ret]
              refine ⟨⟨[D], ⟨rfl, by simp, ?held⟩⟩, fun w' hb hk => ⟨.bool false, by simp [results, Tryd.results21, go_sem], rfl, hB.trans hb⟩⟩
              case held =>
                rintro D' h
                simp only [List.mem_cons, List.not_mem_nil, or_false] at h
                subst h
                exact ⟨by omega, hK⟩
            case done =>
              rintro D ys W hD rfl hw hi hK
              have hpt : portsT L = true := by
                unfold portsT
                rw [List.all_eq_true]
                exact hi
              have HPT := Lib.hid hpt
              have HW := Lib.hid hw
              have HKD := Lib.hid hK
              have hbx := HBO.out.below hw
              have lg := hbx.1
              have c2 : W.cell? ⟨w.heap.size, 2, none⟩ = some (.slice a2 L.exits.length p2) := hbx.2 2 _ rfl
              clear hpt hw hi hK hbx
              dsimp only
              go_wp2_with fail
              go_loopg [88] L.exits.length (fun gg s88 wr => ∃ n : Nat, n ≤ L.exits.length ∧ L.exits.length - n ≤ gg ∧ s88 = .int .i64 n ∧ Hid (Below W.heap.size W wr) ∧ Hid (∀ (j : Nat), j < n → ∀ y, L.exits[j]? = some y → overT L y = true))
              case atStart => exact ⟨0, Nat.zero_le _, by omega, rfl, Lib.hid (Below.refl _ _), Lib.hid (fun j hj => absurd hj (Nat.not_lt_zero _))⟩
              case round =>
                obtain ⟨n, hn, hg, rfl, HBr, HJ⟩ := hrel
                clear c2
                have hBw := bchain HBV.out (bchain HW.out HBr.out)
                have lgr : w.heap.size < wr.heap.size := by have := hBw.size; have := hlw; have := HBr.out.size; omega
                have hKr : wr.heap[D]? = some (.deferred (some [])) := (HBr.out.block D (Array.getElem?_eq_some_iff.1 HKD.out).1).trans HKD.out
                have HKR := Lib.hid hKr
                have HBW := Lib.hid hBw
                clear hKr hBw
                by_cases hlt : n < L.exits.length
                · obtain ⟨es, hes, hAt, hov⟩ := (HL.out.below HBW.out).exits
                  have hlen : es.length = L.exits.length := by rw [← hes, List.length_map]
                  obtain ⟨b, off, hAe, hrow⟩ := hAt.get (j := n) (by omega)
                  dsimp only at hAe
                  subst hAe
                  obtain ⟨y, hy⟩ : ∃ y, es[n]? = some y := ⟨es[n]'(by omega), List.getElem?_eq_getElem (by omega)⟩
                  have hx : L.exits[n]? = some y.1 := by rw [← hes, List.getElem?_map, hy]; rfl
                  have k0 : wr.cell? ⟨b, off + n * 3, none⟩ = some (.int .i64 y.1.s) := hrow.2 n y hy 0 _ rfl
                  have k1 : wr.cell? ⟨b, off + n * 3 + 1, none⟩ = some (.int .i64 y.1.p) := hrow.2 n y hy 1 _ rfl
                  have k2 : wr.cell? ⟨b, off + n * 3 + 2, none⟩ = some y.2 := hrow.2 n y hy 2 _ rfl
                  obtain ⟨vA, vc, ve, hvl, hvm, hva⟩ := hov y (List.mem_of_getElem? hy)
                  have hover : overT L y.1 = (decide (y.1.over.length ≤ 2) && y.1.over.all (fun s => stepB L s.s s.i s.o)) := rfl
                  have hcst : ∀ W', Below wr.heap.size wr W' → Calls Tryd.prog 52 #[.slice vA y.1.over.length vc, .func (.func 41) #[] #[.pointer (some ⟨w.heap.size, 0, none⟩)]] W' fun e w' => e = .returned (.bool (y.1.over.any (fun s => !stepB L s.s s.i s.o))) ∧ Below W'.heap.size W' w' := fun W' hW' =>
                    containsStep_any 41 #[.pointer (some ⟨w.heap.size, 0, none⟩)] (enters_of Tryd.func41 (by kernel_rfl) rfl) (fun s => !stepB L s.s s.i s.o) vA vc y.1.over W' (hva.below hW') hvl hvm
                      (fun W'' s _ hb => right2_any L _ s.s s.i s.o w.heap.size W'' (HL.out.below (bchain (bchain HBW.out hW') hb)) (KH.out.below (bchain (bchain HBW.out hW') hb)) (HBO.out.below (bchain (bchain (bchain HW.out HBr.out) hW') hb)))
                  rw [any_not] at hcst
                  have hx1 : overT L y.1 = false → L.exits.all (overT L) = false := fun h => by rw [List.all_eq_false]; exact ⟨y.1, List.mem_of_getElem? hx, by rw [h]; simp⟩
                  have HX := Lib.hid (⟨hx, hx1⟩ : _ ∧ _)
                  rw [ve] at k2
                  obtain ⟨m, hm⟩ : ∃ m, m = y.1.over.length := ⟨_, rfl⟩
                  obtain ⟨ov, hov'⟩ : ∃ o, o = overT L y.1 := ⟨_, rfl⟩
                  obtain ⟨al, hal⟩ : ∃ o, o = y.1.over.all (fun s => stepB L s.s s.i s.o) := ⟨_, rfl⟩
                  rw [← hm] at k2
                  rw [← hm, ← hal] at hcst
                  rw [← hm, ← hal, ← hov'] at hover
                  rw [← hov'] at HX
                  have HOV := Lib.hid (⟨hover, hov'⟩ : _ ∧ _)
                  have HCST := Lib.hid hcst
                  have lb := hrow.1
                  have hm2 : m ≤ 9223372036854775807 := by
                    rw [hm]
                    exact Nat.le_trans hvl hvm
                  generalize y.1.s = es1 at k0
                  generalize y.1.p = ep1 at k1
                  clear hes hAt hov hlen hrow hy hx hx1 ve hvl hvm hva hcst hm hal hov' hover
                  by_cases g1 : 2 < m
                  · have hof : ov = false := by rw [HOV.out.1, decide_eq_false (by omega)]; rfl
                    obtain rfl : r = false := (HR.out.1 HS.out HTT.out (by simp) (by simp) HPT.out).trans (HX.out.2 hof)
                    have d1 : decide ((2 : Int) < (m : Int)) = true := decide_eq_true (by omega)
                    go_wp2_with fail
                    refine wp_goto ?_
                    refine ⟨rfl, ?_⟩
                    go_wp2
                    rw [Exit.noGoto_ret]
                    refine ⟨⟨[D], ⟨rfl, by simp, ?held⟩⟩, fun w' hb hk => ⟨.bool false, by simp [results, Tryd.results21, go_sem], rfl, (bchain HBW.out bself).trans hb⟩⟩
                    case held =>
                      rintro D' h
                      simp only [List.mem_cons, List.not_mem_nil, or_false] at h
                      subst h
                      exact ⟨by omega, (bself.block _ (Array.getElem?_eq_some_iff.1 HKR.out).1).trans HKR.out⟩
                  · have d1 : decide ((2 : Int) < (m : Int)) = false := decide_eq_false (by omega)
                    go_wp2_with fail
                    (with_reducible refine (HCST.out _ bself).mono ?_)
                    rintro e W5 ⟨rfl, b5⟩
                    have HB5 := Lib.hid (bnew b5)
                    clear b5
                    cases al with
                    | false =>
                      have hof : ov = false := by rw [HOV.out.1]; simp
                      obtain rfl : r = false := (HR.out.1 HS.out HTT.out (by simp) (by simp) HPT.out).trans (HX.out.2 hof)
                      go_wp2_with fail
                      refine wp_goto ?_
                      refine ⟨rfl, ?_⟩
                      go_wp2
                      rw [Exit.noGoto_ret]
                      refine ⟨⟨[D], ⟨rfl, by simp, ?held⟩⟩, fun w' hb hk => ⟨.bool false, by simp [results, Tryd.results21, go_sem], rfl, (bchain HBW.out HB5.out).trans hb⟩⟩
                      case held =>
                        rintro D' h
                        simp only [List.mem_cons, List.not_mem_nil, or_false] at h
                        subst h
                        exact ⟨by omega, (HB5.out.block _ (Array.getElem?_eq_some_iff.1 HKR.out).1).trans HKR.out⟩
                    | true =>
                      have hot : ov = true := by rw [HOV.out.1, decide_eq_true (by omega)]; rfl
                      go_wp2
                      go_roundg (L.exits.length - (n + 1))
                      case measure => omega
                      case rel =>
                        refine ⟨n + 1, by omega, by omega, by go_num, Lib.hid (bchain HBr.out HB5.out), Lib.hid (fun j hj z hz => ?_)⟩
                        by_cases e : j = n
                        · subst e
                          rw [HX.out.1] at hz
                          cases hz
                          rw [← HOV.out.2]
                          exact hot
                        · exact HJ.out j (by omega) z hz
                · obtain rfl : n = L.exits.length := by omega
                  have hall : L.exits.all (overT L) = true := by
                    rw [List.all_eq_true]
                    intro x hx
                    obtain ⟨j, hj, e⟩ := List.mem_iff_getElem.1 hx
                    exact HJ.out j hj x (by rw [← e]; exact List.getElem?_eq_getElem hj)
                  obtain rfl : r = true := (HR.out.1 HS.out HTT.out (by simp) (by simp) HPT.out).trans hall
                  go_wp2
                  rw [Exit.fwd_ret]
                  refine ⟨⟨[D], ⟨rfl, by simp, ?held⟩⟩, fun w' hb hk => ⟨.bool true, by simp [results, Tryd.results21, go_sem], rfl, HBW.out.trans hb⟩⟩
                  case held =>
                    rintro D' h
                    simp only [List.mem_cons, List.not_mem_nil, or_false] at h
                    subst h
                    exact ⟨by omega, HKR.out⟩
end Go.Proofs.YtmnkgnoljllnnaaDoor

/-
  topo.rules: the closure of overlaps; topo.Over.
-/
namespace Go.Proofs.YtmnkgnoljllnnaaDoor
open Go.RowKit Go.Shelf

theorem secAt_lt {L : Lay} {s : Int} {c : Sec} (h : secAt L s = some c) : 0 ≤ s ∧ s < L.secs.length := by
  apply Classical.byContradiction
  intro hn
  rw [secAt_none hn] at h
  cases h
theorem hasB_lt {L : Lay} {s q : Int} (h : hasB L s q = true) : 0 ≤ s ∧ s < L.secs.length := by
  unfold hasB atO at h
  cases hs : secAt L s with
  | none => rw [hs] at h; cases h
  | some c => exact secAt_lt hs
theorem stepB_lt {L : Lay} {s i o : Int} (h : stepB L s i o = true) : 0 ≤ s ∧ s < L.secs.length := by
  unfold stepB at h
  cases hs : secAt L s with
  | none => rw [hs] at h; cases h
  | some c => exact secAt_lt hs
theorem right_secs {L : Lay} (h : rightL L = true) : L.secs.length ≤ 24 := by
  unfold rightL sizesT at h
  simp only [Bool.and_eq_true, decide_eq_true_eq] at h
  omega
theorem right_exits {L : Lay} (h : rightL L = true) {x : Ext'} (hx : x ∈ L.exits) : (0 ≤ x.s ∧ x.s < 24) ∧ ∀ s ∈ x.over, 0 ≤ s.s ∧ s.s < 24 := by
  have h24 := right_secs h
  unfold rightL at h
  simp only [Bool.and_eq_true] at h
  obtain ⟨⟨_, hp⟩, he⟩ := h
  constructor
  · unfold portsT at hp
    rw [List.all_eq_true] at hp
    have := hasB_lt (hp (exP x) (by unfold portsL; simp only [List.mem_append, List.mem_map]; exact .inr (.inr ⟨x, hx, rfl⟩)))
    simp only [exP] at this
    omega
  · intro s hs
    rw [List.all_eq_true] at he
    have ho := he x hx
    unfold overT at ho
    simp only [Bool.and_eq_true, List.all_eq_true] at ho
    have := stepB_lt (ho.2 s hs)
    omega

set_option maxRecDepth 100000 in
set_option maxHeartbeats 8000000 in
theorem rule4_any (L : Lay) (p : Where) (g : Nat) (w : World) (hL : LayAt w p L) (K : Kinds w) (E : JEnd w) (hB : BoxL w g L p) (hR : rightL L = true) :
    Calls Tryd.prog 61 #[.pointer (some ⟨g, 0, none⟩)] w fun e w' => e = .returned (.int .i64 (idxOf' (fun x => !overOk L x) L.exits)) ∧ Below w.heap.size w w' := by
  have HX := Lib.hid (⟨fun n x => idx_hit (p := fun x => !overOk L x) (xs := L.exits) (n := n) (x := x), idx_miss (p := fun x => !overOk L x) (xs := L.exits)⟩ : _ ∧ _)
  generalize idxOf' (fun x => !overOk L x) L.exits = r at HX
  have m2 : L.exits.length ≤ 9223372036854775807 := Nat.le_trans hL.l2.1 hL.l2.2
  have HRE := Lib.hid (fun (x : Ext') (hx : x ∈ L.exits) => right_exits hR hx)
  obtain ⟨a0, a1, a2, a3, p0, p1, p2, p3⟩ := p
  obtain ⟨c0, c1, c2, c3, c4, c5, c6, c7, c8, c9, c10⟩ := hB.cells
  dsimp only at c0 c1 c2 c3
  have lg := hB.1
  have HL := Lib.hid hL
  have HK := Lib.hid (⟨K, E⟩ : _ ∧ _)
  have HB := Lib.hid hB
  clear hL K E hB hR
  go_enter Tryd.func61, Tryd.ntmps61
  go_wp2_with fail
  go_loopw [7] (fun c wr => ∃ n : Nat, n ≤ L.exits.length ∧ c = .int .i64 n ∧ Hid (Below w.heap.size w wr) ∧ Hid (∀ j, j < n → ∀ y, L.exits[j]? = some y → (!overOk L y) = false)) (fun c _ => L.exits.length - (intOf c).toNat)
  case atStart => exact ⟨0, Nat.zero_le _, rfl, Lib.hid (Below.refl _ w), Lib.hid (fun j hj => absurd hj (Nat.not_lt_zero _))⟩
  case round =>
    obtain ⟨n, hn, rfl, HW, HJ⟩ := hrel
    clear c0 c1 c2 c3 c4 c5 c6 c7 c8 c9 c10
    by_cases hlt : n < L.exits.length
    · obtain ⟨es, hes, hAt, hov⟩ := (HL.out.below HW.out).exits
      have hlen : es.length = L.exits.length := by rw [← hes, List.length_map]
      obtain ⟨b, off, hAe, hrow⟩ := hAt.get (j := n) (by omega)
      dsimp only at hAe
      subst hAe
      obtain ⟨y, hy⟩ : ∃ y, es[n]? = some y := ⟨es[n]'(by omega), List.getElem?_eq_getElem (by omega)⟩
      have hx : L.exits[n]? = some y.1 := by rw [← hes, List.getElem?_map, hy]; rfl
      have k0 : wr.cell? ⟨b, off + n * 3, none⟩ = some (.int .i64 y.1.s) := hrow.2 n y hy 0 _ rfl
      have k1 : wr.cell? ⟨b, off + n * 3 + 1, none⟩ = some (.int .i64 y.1.p) := hrow.2 n y hy 1 _ rfl
      have k2 : wr.cell? ⟨b, off + n * 3 + 2, none⟩ = some y.2 := hrow.2 n y hy 2 _ rfl
      obtain ⟨vA, vc, ve, hvl, hvm, hva⟩ := hov y (List.mem_of_getElem? hy)
      rw [ve] at k2
      have hre := HRE.out y.1 (List.mem_of_getElem? hx)
      have hcall := over_any L ⟨a0, a1, some ⟨b, off, none⟩, a3, p0, p1, p2, p3⟩ y.1 vA vc (wr.alloc (.cells #[.int .i64 y.1.s, .int .i64 y.1.p, .slice vA y.1.over.length vc] 40)) (HL.out.below (bchain HW.out bself)) (HK.out.1.below (bchain HW.out bself)) (HK.out.2.below (bchain HW.out bself)) (hva.below bself) hvl hvm hre.1 hre.2
      obtain ⟨q, hq⟩ : ∃ q, q = overOk L y.1 := ⟨_, rfl⟩
      rw [← hq] at hcall
      unfold Lay.val at hcall
      have HXX := Lib.hid (⟨hx, hq⟩ : _ ∧ _)
      have HC := Lib.hid hcall
      have lb := hrow.1
      obtain ⟨c0, c1, c2, c3, c4, c5, c6, c7, c8, c9, c10⟩ := (HB.out.below HW.out).cells
      dsimp only at c0 c1 c2 c3
      have lg2 := (HB.out.below HW.out).1
      generalize y.1.s = es1 at k0 HC
      generalize y.1.p = ep1 at k1 HC
      generalize y.1.over.length = ol at k2 HC
      clear hes hAt hov hlen hrow hy hx hq hcall ve hvl hvm hva hre
      go_wp2_with fail
      (with_reducible refine HC.out.mono ?_)
      rintro e w1 ⟨rfl, b1⟩
      have HB1 := Lib.hid (bchain (bchain HW.out bself) b1)
      clear b1 HC
      cases q with
      | false =>
        go_wp2
        go_ret
        obtain rfl := HX.out.1 n y.1 HXX.out.1 (by rw [← HXX.out.2]; rfl) HJ.out
        exact ⟨rfl, HB1.out⟩
      | true =>
        go_wp2
        go_roundw
        case rel =>
          refine ⟨n + 1, by omega, by go_num, HB1, Lib.hid (fun j hj z hz => ?_)⟩
          by_cases e : j = n
          · subst e
            rw [HXX.out.1] at hz
            cases hz
            rw [← HXX.out.2]
            rfl
          · exact HJ.out j (by omega) z hz
        case measure => simp [intOf]; omega
    · obtain rfl : n = L.exits.length := by omega
      go_wp2
      go_ret
      obtain rfl := HX.out.2 HJ.out
      exact ⟨rfl, HW.out⟩

/-- Is the overlap of an exit, told by its number, one? -/
def overX (L : Lay) (x : Int) : Bool := rightL L && (if 0 ≤ x then (match L.exits[x.toNat]? with
  | some e => overOk L e
  | none => false) else false)
set_option maxRecDepth 100000 in
set_option maxHeartbeats 8000000 in
theorem over2_any (L : Lay) (p : Where) (x : Int) (w : World) (hL : LayAt w p L) (K : Kinds w) (E : JEnd w) :
    Calls Tryd.prog 14 #[L.val p, .int .i64 x] w fun e w' => e = .returned (.bool (overX L x)) ∧ Below w.heap.size w w' := by
  have hrt := fun W (hb : Below w.heap.size w W) => rightLay_any L p W (hL.below hb) (K.below hb)
  have m2 : L.exits.length ≤ 9223372036854775807 := Nat.le_trans hL.l2.1 hL.l2.2
  by_cases h0 : 0 ≤ x
  · by_cases h1 : x < L.exits.length
    · obtain ⟨n, rfl⟩ : ∃ n : Nat, x = (n : Int) := ⟨x.toNat, by omega⟩
      have hn : n < L.exits.length := by omega
      obtain ⟨es, hes, hAt, hov⟩ := hL.exits
      have hlen : es.length = L.exits.length := by rw [← hes, List.length_map]
      obtain ⟨b, off, hAe, hrow⟩ := hAt.get (j := n) (by omega)
      obtain ⟨y, hy⟩ : ∃ y, es[n]? = some y := ⟨es[n]'(by omega), List.getElem?_eq_getElem (by omega)⟩
      have hx : L.exits[n]? = some y.1 := by rw [← hes, List.getElem?_map, hy]; rfl
      have k0 : w.cell? ⟨b, off + n * 3, none⟩ = some (.int .i64 y.1.s) := hrow.2 n y hy 0 _ rfl
      have k1 : w.cell? ⟨b, off + n * 3 + 1, none⟩ = some (.int .i64 y.1.p) := hrow.2 n y hy 1 _ rfl
      have k2 : w.cell? ⟨b, off + n * 3 + 2, none⟩ = some y.2 := hrow.2 n y hy 2 _ rfl
      obtain ⟨vA, vc, ve, hvl, hvm, hva⟩ := hov y (List.mem_of_getElem? hy)
      rw [ve] at k2
      have lb := hrow.1
      have e : overX L (n : Int) = (rightL L && overOk L y.1) := by
        unfold overX
        rw [if_pos h0, Int.toNat_natCast, hx]
      rw [e]
      have hcall := fun W (hb : Below w.heap.size w W) (hR : rightL L = true) => over_any L p y.1 vA vc W (hL.below hb) (K.below hb) (E.below hb) (hva.below hb) hvl hvm (right_exits hR (List.mem_of_getElem? hx)).1 (right_exits hR (List.mem_of_getElem? hx)).2
      have d1 : decide (n < L.exits.length) = true := decide_eq_true hn
      obtain ⟨a0, a1, a2, a3, p0, p1, p2, p3⟩ := p
      dsimp only at hAe
      subst hAe
      unfold Lay.val at hrt hcall ⊢
      cases hR : rightL L with
      | false =>
        rw [hR] at hrt
        have HRT := Lib.hid hrt
        clear hcall hrt e hx hy hrow hes hAt hov hlen hva hvm hvl hL K E hR
        go_enter Tryd.func14, Tryd.ntmps14
        go_wp2_with fail
        refine wp_region_ext (by kernel_rfl) (by kernel_rfl) fun hx => ?_
        repeat (go_big_quiet_step ((go_at_call 21; exact Calls.ext (HRT.out _ (bchain bself (Ext.below _))))))
        refine wpQuiet_nil ?_
        intro w5 b5
        go_wp2
        go_ret
        exact ⟨rfl, bchain bself b5⟩
      | true =>
        rw [hR] at hrt
        rw [Bool.true_and]
        generalize overOk L y.1 = q at hcall ⊢
        generalize y.1.s = ys at k0 hcall
        generalize y.1.p = yp at k1 hcall
        generalize y.1.over.length = yl at k2 hcall
        have HRT := Lib.hid hrt
        have HOV := Lib.hid (fun W hb => hcall W hb hR)
        clear hcall hrt e hx hy hrow hes hAt hov hlen hva hvm hvl hL K E hR
        go_enter Tryd.func14, Tryd.ntmps14
        go_wp2_with fail
        refine wp_region_ext (by kernel_rfl) (by kernel_rfl) fun hx => ?_
        repeat (go_big_quiet_step (first | (go_at_call 21; exact Calls.ext (HRT.out _ (bchain bself (Ext.below _)))) | (go_at_call 27; exact Calls.ext (HOV.out _ (bchain bself (Ext.below _))))))
        refine wpQuiet_nil ?_
        intro w5 b5
        go_wp2
        go_ret
        exact ⟨rfl, bchain bself b5⟩
    · have e : overX L x = false := by
        unfold overX
        rw [if_pos h0, List.getElem?_eq_none (by omega)]
        simp
      rw [e]
      have d0 : decide (0 ≤ x) = true := decide_eq_true h0
      have d1 : decide (x < L.exits.length) = false := decide_eq_false h1
      clear hrt hL K E e h0 h1
      unfold Lay.val
      go_enter Tryd.func14, Tryd.ntmps14
      go_wp2_with fail
      refine wp_region_ext (by kernel_rfl) (by kernel_rfl) fun hx => ?_
      repeat (go_big_quiet_step (fail))
      refine wpQuiet_nil ?_
      intro w5 b5
      go_wp2
      go_ret
      exact ⟨rfl, bchain bself b5⟩
  · have e : overX L x = false := by
      unfold overX
      rw [if_neg h0]
      simp
    rw [e]
    have d0 : decide (0 ≤ x) = false := decide_eq_false h0
    clear hrt hL K E e h0
    unfold Lay.val
    go_enter Tryd.func14, Tryd.ntmps14
    go_wp2_with fail
    refine wp_region_ext (by kernel_rfl) (by kernel_rfl) fun hx => ?_
    repeat (go_big_quiet_step (fail))
    refine wpQuiet_nil ?_
    intro w5 b5
    go_wp2
    go_ret
    exact ⟨rfl, bchain bself b5⟩
end Go.Proofs.YtmnkgnoljllnnaaDoor

/-
  topo.rules, Check, Right.
-/
namespace Go.Proofs.YtmnkgnoljllnnaaDoor
open Go.RowKit Go.Shelf

/-- Of what a rule is not kept first; -1: it is kept. -/
def ruleN (L : Lay) : Nat → Int
  | 0 => if joinedL L then -1 else 0
  | 1 => firstDup (sigP L) L.sigs.length
  | 2 => firstDup (exQ L) L.exits.length
  | 3 => idxOf' (fun x => !overOk L x) L.exits
  | _ => firstDup (flQ L) L.flanks.length
/-- The rule that is not kept first, of what, and how it is told. -/
def checkL (L : Lay) : Int × Int × Int :=
  if rightL L then
    if 0 ≤ ruleN L 0 then (1, ruleN L 0, 90) else if 0 ≤ ruleN L 1 then (2, ruleN L 1, 90) else if 0 ≤ ruleN L 2 then (3, ruleN L 2, 90) else if 0 ≤ ruleN L 3 then (4, ruleN L 3, 90) else if 0 ≤ ruleN L 4 then (5, ruleN L 4, 90) else (0, 0, 0)
  else (0, 0, 60)
theorem check_no {L : Lay} (h : rightL L = false) : checkL L = (0, 0, 60) := by unfold checkL; rw [h]; rfl
theorem check_hit {L : Lay} (h : rightL L = true) {n : Nat} (hn : n < 5) (ha : ∀ j, j < n → ruleN L j < 0) (hh : 0 ≤ ruleN L n) : checkL L = ((n : Int) + 1, ruleN L n, 90) := by
  unfold checkL
  rw [if_pos h]
  have h0 := ha 0
  have h1 := ha 1
  have h2 := ha 2
  have h3 := ha 3
  obtain rfl | rfl | rfl | rfl | rfl : n = 0 ∨ n = 1 ∨ n = 2 ∨ n = 3 ∨ n = 4 := by omega
  · rw [if_pos hh]; rfl
  · rw [if_neg (by have := h0 (by omega); omega), if_pos hh]; rfl
  · rw [if_neg (by have := h0 (by omega); omega), if_neg (by have := h1 (by omega); omega), if_pos hh]; rfl
  · rw [if_neg (by have := h0 (by omega); omega), if_neg (by have := h1 (by omega); omega), if_neg (by have := h2 (by omega); omega), if_pos hh]; rfl
  · rw [if_neg (by have := h0 (by omega); omega), if_neg (by have := h1 (by omega); omega), if_neg (by have := h2 (by omega); omega), if_neg (by have := h3 (by omega); omega), if_pos hh]; rfl
theorem check_none {L : Lay} (h : rightL L = true) (ha : ∀ j, j < 5 → ruleN L j < 0) : checkL L = (0, 0, 0) := by
  unfold checkL
  rw [if_pos h, if_neg (by have := ha 0 (by omega); omega), if_neg (by have := ha 1 (by omega); omega), if_neg (by have := ha 2 (by omega); omega), if_neg (by have := ha 3 (by omega); omega), if_neg (by have := ha 4 (by omega); omega)]

set_option maxRecDepth 100000 in
set_option maxHeartbeats 4000000 in
theorem rule1_any (L : Lay) (P : Where) (g : Nat) (w : World) (hL : LayAt w P L) (K : Kinds w) (E : JEnd w) (hB : BoxL w g L P) :
    Calls Tryd.prog 53 #[.pointer (some ⟨g, 0, none⟩)] w fun e w' => e = .returned (.int .i64 (ruleN L 0)) ∧ Below w.heap.size w w' := by
  obtain ⟨q, hq⟩ : ∃ q, q = joinedL L := ⟨_, rfl⟩
  have hr : ruleN L 0 = if q then -1 else 0 := by rw [hq]; rfl
  have hcall := joinedJ_any L P w hL K E
  rw [← hq] at hcall
  rw [hr]
  obtain ⟨c0, c1, c2, c3, c4, c5, c6, c7, c8, c9, c10⟩ := hB.cells
  have lg := hB.1
  obtain ⟨a0, a1, a2, a3, p0, p1, p2, p3⟩ := P
  dsimp only at c0 c1 c2 c3
  unfold Lay.val at hcall
  have HC := Lib.hid hcall
  clear hcall hr hq hL K E hB
  cases q with
  | true =>
    go_enter Tryd.func53, Tryd.ntmps53
    go_wp2_with fail
    (with_reducible refine HC.out.mono ?_)
    rintro e w1 ⟨rfl, b1⟩
    go_wp2
    go_ret
    exact ⟨rfl, b1⟩
  | false =>
    go_enter Tryd.func53, Tryd.ntmps53
    go_wp2_with fail
    (with_reducible refine HC.out.mono ?_)
    rintro e w1 ⟨rfl, b1⟩
    go_wp2
    go_ret
    exact ⟨rfl, b1⟩

/-- The five rules, laid. -/
structure RulesAt (W : World) (b g : Nat) : Prop where
  lt : b < W.heap.size
  r0 : W.cell? ⟨b, 0, none⟩ = some (.func (.func 53) #[] #[.pointer (some ⟨g, 0, none⟩)])
  r1 : W.cell? ⟨b, 1, none⟩ = some (.func (.func 55) #[] #[.pointer (some ⟨g, 0, none⟩)])
  r2 : W.cell? ⟨b, 2, none⟩ = some (.func (.func 59) #[] #[.pointer (some ⟨g, 0, none⟩)])
  r3 : W.cell? ⟨b, 3, none⟩ = some (.func (.func 61) #[] #[.pointer (some ⟨g, 0, none⟩)])
  r4 : W.cell? ⟨b, 4, none⟩ = some (.func (.func 62) #[] #[.pointer (some ⟨g, 0, none⟩)])
theorem RulesAt.below {W W' : World} {b g : Nat} (h : RulesAt W b g) (hb : Below W.heap.size W W') : RulesAt W' b g :=
  ⟨Nat.lt_of_lt_of_le h.lt hb.size, (hb.cell (p := ⟨b, 0, none⟩) h.lt).trans h.r0, (hb.cell (p := ⟨b, 1, none⟩) h.lt).trans h.r1, (hb.cell (p := ⟨b, 2, none⟩) h.lt).trans h.r2, (hb.cell (p := ⟨b, 3, none⟩) h.lt).trans h.r3, (hb.cell (p := ⟨b, 4, none⟩) h.lt).trans h.r4⟩
set_option maxRecDepth 100000 in
set_option maxHeartbeats 4000000 in
theorem rules_any (L : Lay) (P : Where) (w : World) :
    Calls Tryd.prog 22 #[L.val P] w fun e w' => ∃ b g, e = .returned (.slice (some ⟨b, 0, none⟩) 5 5) ∧ Below w.heap.size w w' ∧ RulesAt w' b g ∧ BoxL w' g L P := by
  obtain ⟨a0, a1, a2, a3, p0, p1, p2, p3⟩ := P
  unfold Lay.val
  go_enter Tryd.func22, Tryd.ntmps22
  go_wp2
  refine bodyPost_ret (v := .slice (some ⟨w.heap.size + 1, 0, none⟩) 5 5) (by simp [results, Tryd.results22, go_sem]) rfl ⟨w.heap.size + 1, w.heap.size, rfl, bchain bself bself, ⟨by simp, by simp [go_sem], by simp [go_sem], by simp [go_sem], by simp [go_sem], by simp [go_sem]⟩, ?_⟩
  exact (BoxL.make (p := ⟨a0, a1, a2, a3, p0, p1, p2, p3⟩) _ rfl).below bself

set_option maxRecDepth 100000 in
set_option maxHeartbeats 16000000 in
theorem check_any (L : Lay) (P : Where) (w : World) (hL : LayAt w P L) (K : Kinds w) (E : JEnd w) :
    Calls Tryd.prog 10 #[L.val P] w fun e w' => e = .returned (.tuple #[.int .i64 (checkL L).1, .int .i64 (checkL L).2.1, .int .i64 (checkL L).2.2]) ∧ Below w.heap.size w w' := by
  obtain ⟨cr, hcr⟩ : ∃ cr, cr = checkL L := ⟨_, rfl⟩
  obtain ⟨q, hq⟩ : ∃ q, q = rightL L := ⟨_, rfl⟩
  have hrt := fun W (hb : Below w.heap.size w W) => rightLay_any L P W (hL.below hb) (K.below hb)
  have hru := fun W => rules_any L P W
  rw [← hcr]
  rw [← hq] at hrt
  have hfun : q = true → ∀ n, n < 5 → ∀ g W, Below w.heap.size w W → BoxL W g L P → Calls Tryd.prog (match n with | 0 => 53 | 1 => 55 | 2 => 59 | 3 => 61 | _ => 62) #[.pointer (some ⟨g, 0, none⟩)] W fun e w' => e = .returned (.int .i64 (ruleN L n)) ∧ Below W.heap.size W w' := fun hqt n hn g W hb hB => by
    obtain rfl | rfl | rfl | rfl | rfl : n = 0 ∨ n = 1 ∨ n = 2 ∨ n = 3 ∨ n = 4 := by omega
    · exact rule1_any L P g W (hL.below hb) (K.below hb) (E.below hb) hB
    · exact rule2_any L P g W (hL.below hb) hB
    · exact rule3_any L P g W (hL.below hb) hB
    · exact rule4_any L P g W (hL.below hb) (K.below hb) (E.below hb) hB (hq ▸ hqt)
    · exact rule5_any L P g W (hL.below hb) hB
  obtain ⟨a0, a1, a2, a3, p0, p1, p2, p3⟩ := P
  unfold Lay.val at hrt hru ⊢
  have HRT := Lib.hid hrt
  have HRU := Lib.hid hru
  have HF := Lib.hid hfun
  have HQ := Lib.hid (⟨hq, hcr⟩ : _ ∧ _)
  clear hrt hru hfun hq hcr hL K E
  go_enter Tryd.func10, Tryd.ntmps10
  go_wp2_with fail
  (with_reducible refine (HRT.out (w.alloc (.cells #[.slice a0 L.secs.length p0, .slice a1 L.sigs.length p1, .slice a2 L.exits.length p2, .slice a3 L.flanks.length p3, .int .i64 L.t0, .int .i64 L.t1, .int .i64 L.t2, .int .i64 L.t3, .int .i64 L.t4, .int .i64 L.t5, .int .i64 L.t6] 29)) bself).mono ?_)
  rintro e w1 ⟨rfl, b1⟩
  have HB1 := Lib.hid (bnew b1)
  cases q with
  | false =>
    clear b1
    obtain rfl : cr = (0, 0, 60) := HQ.out.2.trans (check_no HQ.out.1.symm)
    go_wp2
    go_ret3
    exact ⟨rfl, HB1.out⟩
  | true =>
    have hbx : BoxL w1 w.heap.size L ⟨a0, a1, a2, a3, p0, p1, p2, p3⟩ := (BoxL.make _ rfl).below b1
    obtain ⟨c0, c1, c2, c3, c4, c5, c6, c7, c8, c9, c10⟩ := hbx.cells
    have lg := hbx.1
    dsimp only at c0 c1 c2 c3
    clear b1 hbx
    go_wp2_with fail
    (with_reducible refine (HRU.out _).mono ?_)
    rintro e w2 ⟨b, g, rfl, b2, hRA, hBG⟩
    have HB2 := Lib.hid (⟨bchain HB1.out b2, hRA, hBG⟩ : _ ∧ _ ∧ _)
    clear c0 c1 c2 c3 c4 c5 c6 c7 c8 c9 c10 lg b2 hRA hBG
    go_wp2_with fail
    go_loopw [14] (fun c wr => ∃ n : Nat, n ≤ 5 ∧ c = .int .i64 n ∧ Hid (Below w2.heap.size w2 wr) ∧ Hid (∀ j, j < n → ruleN L j < 0)) (fun c _ => 5 - (intOf c).toNat)
    case atStart => exact ⟨0, by omega, rfl, Lib.hid (Below.refl _ _), Lib.hid (fun j hj => absurd hj (Nat.not_lt_zero _))⟩
    case round =>
      obtain ⟨n, hn, rfl, HBr, HJ⟩ := hrel
      have HRA := Lib.hid (HB2.out.2.1.below HBr.out)
      have hBG := HB2.out.2.2.below HBr.out
      have HBW := Lib.hid (bchain HB2.out.1 HBr.out)
      have lb := HRA.out.lt
      by_cases hn5 : n = 5
      · subst hn5
        obtain rfl : cr = (0, 0, 0) := HQ.out.2.trans (check_none HQ.out.1.symm HJ.out)
        clear hBG
        go_wp2
        go_ret3
        exact ⟨rfl, HBW.out⟩
      have hlt : n < 5 := by omega
      have hcall := HF.out trivial n hlt g wr HBW.out hBG
      have hch := fun hh : 0 ≤ ruleN L n => check_hit HQ.out.1.symm hlt HJ.out hh
      generalize hv : ruleN L n = v at hcall hch
      have HC := Lib.hid hcall
      have HCH := Lib.hid (⟨hch, hv⟩ : _ ∧ _)
      clear hcall hch hBG hv
      obtain ⟨b0, hb0⟩ : ∃ b0, b0 = decide (0 ≤ v) := ⟨_, rfl⟩
      have hn' : n = 0 ∨ n = 1 ∨ n = 2 ∨ n = 3 ∨ n = 4 := by omega
      by_cases h0 : 0 ≤ v
      · have d0 : decide (0 ≤ v) = true := decide_eq_true h0
        have e := HQ.out.2.trans (HCH.out.1 h0)
        have HE := Lib.hid e
        clear e h0 hb0
        rcases hn' with rfl | rfl | rfl | rfl | rfl
        · have ck := HRA.out.r0
          go_wp2_with fail
          (with_reducible refine HC.out.mono ?_)
          rintro e w3 ⟨rfl, b3⟩
          have HB3 := Lib.hid (bchain HBW.out b3)
          clear b3 ck
          go_wp2
          obtain rfl := HE.out
          go_ret3
          exact ⟨rfl, HB3.out⟩
        · have ck := HRA.out.r1
          go_wp2_with fail
          (with_reducible refine HC.out.mono ?_)
          rintro e w3 ⟨rfl, b3⟩
          have HB3 := Lib.hid (bchain HBW.out b3)
          clear b3 ck
          go_wp2
          obtain rfl := HE.out
          go_ret3
          exact ⟨rfl, HB3.out⟩
        · have ck := HRA.out.r2
          go_wp2_with fail
          (with_reducible refine HC.out.mono ?_)
          rintro e w3 ⟨rfl, b3⟩
          have HB3 := Lib.hid (bchain HBW.out b3)
          clear b3 ck
          go_wp2
          obtain rfl := HE.out
          go_ret3
          exact ⟨rfl, HB3.out⟩
        · have ck := HRA.out.r3
          go_wp2_with fail
          (with_reducible refine HC.out.mono ?_)
          rintro e w3 ⟨rfl, b3⟩
          have HB3 := Lib.hid (bchain HBW.out b3)
          clear b3 ck
          go_wp2
          obtain rfl := HE.out
          go_ret3
          exact ⟨rfl, HB3.out⟩
        · have ck := HRA.out.r4
          go_wp2_with fail
          (with_reducible refine HC.out.mono ?_)
          rintro e w3 ⟨rfl, b3⟩
          have HB3 := Lib.hid (bchain HBW.out b3)
          clear b3 ck
          go_wp2
          obtain rfl := HE.out
          go_ret3
          exact ⟨rfl, HB3.out⟩
      · have d0 : decide (0 ≤ v) = false := decide_eq_false h0
        have HV := Lib.hid h0
        clear h0 hb0
        rcases hn' with rfl | rfl | rfl | rfl | rfl
        · have ck := HRA.out.r0
          go_wp2_with fail
          (with_reducible refine HC.out.mono ?_)
          rintro e w3 ⟨rfl, b3⟩
          have HB3 := Lib.hid (bchain HBr.out b3)
          clear b3 ck
          go_wp2
          go_roundw
          case rel => exact ⟨0 + 1, by omega, rfl, HB3, Lib.hid (fun j hj => by
            by_cases e : j = 0
            · subst e; have := HV.out; rw [← HCH.out.2] at this; omega
            · exact HJ.out j (by omega))⟩
          case measure => simp [intOf]
        · have ck := HRA.out.r1
          go_wp2_with fail
          (with_reducible refine HC.out.mono ?_)
          rintro e w3 ⟨rfl, b3⟩
          have HB3 := Lib.hid (bchain HBr.out b3)
          clear b3 ck
          go_wp2
          go_roundw
          case rel => exact ⟨1 + 1, by omega, rfl, HB3, Lib.hid (fun j hj => by
            by_cases e : j = 1
            · subst e; have := HV.out; rw [← HCH.out.2] at this; omega
            · exact HJ.out j (by omega))⟩
          case measure => simp [intOf]
        · have ck := HRA.out.r2
          go_wp2_with fail
          (with_reducible refine HC.out.mono ?_)
          rintro e w3 ⟨rfl, b3⟩
          have HB3 := Lib.hid (bchain HBr.out b3)
          clear b3 ck
          go_wp2
          go_roundw
          case rel => exact ⟨2 + 1, by omega, rfl, HB3, Lib.hid (fun j hj => by
            by_cases e : j = 2
            · subst e; have := HV.out; rw [← HCH.out.2] at this; omega
            · exact HJ.out j (by omega))⟩
          case measure => simp [intOf]
        · have ck := HRA.out.r3
          go_wp2_with fail
          (with_reducible refine HC.out.mono ?_)
          rintro e w3 ⟨rfl, b3⟩
          have HB3 := Lib.hid (bchain HBr.out b3)
          clear b3 ck
          go_wp2
          go_roundw
          case rel => exact ⟨3 + 1, by omega, rfl, HB3, Lib.hid (fun j hj => by
            by_cases e : j = 3
            · subst e; have := HV.out; rw [← HCH.out.2] at this; omega
            · exact HJ.out j (by omega))⟩
          case measure => simp [intOf]
        · have ck := HRA.out.r4
          go_wp2_with fail
          (with_reducible refine HC.out.mono ?_)
          rintro e w3 ⟨rfl, b3⟩
          have HB3 := Lib.hid (bchain HBr.out b3)
          clear b3 ck
          go_wp2
          go_roundw
          case rel => exact ⟨4 + 1, by omega, rfl, HB3, Lib.hid (fun j hj => by
            by_cases e : j = 4
            · subst e; have := HV.out; rw [← HCH.out.2] at this; omega
            · exact HJ.out j (by omega))⟩
          case measure => simp [intOf]

/-- Does a layout hang together? -/
def topoR (L : Lay) : Bool := decide ((checkL L).2.2 = 0)
set_option maxRecDepth 100000 in
set_option maxHeartbeats 4000000 in
theorem topoRight_any (L : Lay) (P : Where) (w : World) (hL : LayAt w P L) (K : Kinds w) (E : JEnd w) :
    Calls Tryd.prog 12 #[L.val P] w fun e w' => e = .returned (.bool (topoR L)) ∧ Below w.heap.size w w' := by
  have hc := fun W (hb : Below w.heap.size w W) => check_any L P W (hL.below hb) (K.below hb) (E.below hb)
  unfold topoR
  generalize checkL L = cr at hc ⊢
  obtain ⟨x0, x1, x2⟩ := cr
  dsimp only at hc ⊢
  obtain ⟨q, hq⟩ : ∃ q, q = decide (x2 = 0) := ⟨_, rfl⟩
  obtain ⟨a0, a1, a2, a3, p0, p1, p2, p3⟩ := P
  unfold Lay.val at hc ⊢
  have HC := Lib.hid hc
  clear hc hL K E hq
  go_enter Tryd.func12, Tryd.ntmps12
  go_wp2_with fail
  (with_reducible refine (HC.out (w.alloc (.cells #[.slice a0 L.secs.length p0, .slice a1 L.sigs.length p1, .slice a2 L.exits.length p2, .slice a3 L.flanks.length p3, .int .i64 L.t0, .int .i64 L.t1, .int .i64 L.t2, .int .i64 L.t3, .int .i64 L.t4, .int .i64 L.t5, .int .i64 L.t6] 29)) bself).mono ?_)
  rintro e w1 ⟨rfl, b1⟩
  have HB1 := Lib.hid (bnew b1)
  clear b1
  go_wp2
  go_ret
  exact ⟨by first | rfl | (apply ret_bool; simp), HB1.out⟩
end Go.Proofs.YtmnkgnoljllnnaaDoor

/-
  slices.Equal, slices.EqualFunc at the structs of a layout; layout.Same.
-/
namespace Go.Proofs.YtmnkgnoljllnnaaDoor
open Go.RowKit Go.Shelf

theorem eq_of_all {α : Type} {xs ys : List α} (hl : xs.length = ys.length) (h : ∀ (j : Nat), j < xs.length → xs[j]? = ys[j]?) : xs = ys := by
  apply List.ext_getElem? 
  intro j
  by_cases hj : j < xs.length
  · exact h j hj
  · rw [List.getElem?_eq_none (by omega), List.getElem?_eq_none (by omega)]

/-- A comparison: whether f tells the same of both. -/
def PB2 {α β : Type} [DecidableEq β] (g : Nat) (lb : Array Value) (enc : α → List Value) (f : α → β) (xs ys : List α) (w : World) : Prop :=
  ∀ (W : World) (x y : α), x ∈ xs → y ∈ ys → Below w.heap.size w W → Calls Tryd.prog g (#[.agg (enc x).toArray, .agg (enc y).toArray] ++ lb) W fun e w' => e = .returned (.bool (decide (f x = f y))) ∧ Below W.heap.size W w'
theorem map_eq_of {α β : Type} {f : α → β} {xs ys : List α} (hl : xs.length = ys.length) (h : ∀ (j : Nat) x y, j < xs.length → xs[j]? = some x → ys[j]? = some y → f x = f y) : xs.map f = ys.map f := by
  refine eq_of_all (by simpa using hl) (fun j hj => ?_)
  rw [List.length_map] at hj
  have hj' : j < ys.length := by omega
  rw [List.getElem?_map, List.getElem?_map, List.getElem?_eq_getElem hj, List.getElem?_eq_getElem hj']
  exact congrArg some (h j _ _ hj (List.getElem?_eq_getElem hj) (List.getElem?_eq_getElem hj'))
theorem map_ne_of {α β : Type} {f : α → β} {xs ys : List α} {j : Nat} {x y : α} (hx : xs[j]? = some x) (hy : ys[j]? = some y) (h : ¬ f x = f y) : ¬ xs.map f = ys.map f := by
  intro e
  have := congrArg (fun l => l[j]?) e
  simp only [List.getElem?_map, hx, hy, Option.map_some, Option.some.injEq] at this
  exact h this

theorem stood_port : Tryd.prog.stoodInHeld 37 = false := by kernel_rfl
theorem info_port : ∃ i, Tryd.prog.info? 37 = some i := Option.isSome_iff_exists.1 (show (Tryd.prog.info? 37).isSome = true by kernel_rfl)
theorem cells_port : Tryd.prog.cellsOf 37 = 2 := by kernel_rfl
set_option maxRecDepth 100000 in
theorem eql_port (d : Nat) (x0 x1 y0 y1 : Int) (w : World) : (Op.equalIn (d + 2) 37 (.agg #[.int .i64 x0, .int .i64 x1]) (.agg #[.int .i64 y0, .int .i64 y1])).run Tryd.prog w = .ok (x0 == y0 && x1 == y1) w := by
  rw [run_equalIn_struct w (d + 1) 37 _ _ (by kernel_rfl) stood_port]
  by_cases h0 : x0 = y0 <;> by_cases h1 : x1 = y1 <;> simp [Op.eqFields, go_sem, Tryd.underlying37, h0, h1]
set_option maxRecDepth 100000 in
theorem eql_join (x0 x1 x2 x3 x4 x5 x6 x7 y0 y1 y2 y3 y4 y5 y6 y7 : Int) (w : World) : (Op.equalIn 10000 45 (.agg #[.int .i64 x0, .int .i64 x1, .int .i64 x2, .int .i64 x3, .int .i64 x4, .int .i64 x5, .int .i64 x6, .int .i64 x7]) (.agg #[.int .i64 y0, .int .i64 y1, .int .i64 y2, .int .i64 y3, .int .i64 y4, .int .i64 y5, .int .i64 y6, .int .i64 y7])).run Tryd.prog w = .ok ((x0 == y0 && x1 == y1) && ((x2 == y2 && x3 == y3) && ((x4 == y4 && x5 == y5) && (x6 == y6 && x7 == y7)))) w := by
  obtain ⟨i, hi⟩ := info_port
  have h := run_equalIn_array (P := Tryd.prog) (w := w) (9998 + 1) (t := 45) (e := 37) (n := 4) (i := i) #[.int .i64 x0, .int .i64 x1, .int .i64 x2, .int .i64 x3, .int .i64 x4, .int .i64 x5, .int .i64 x6, .int .i64 x7] #[.int .i64 y0, .int .i64 y1, .int .i64 y2, .int .i64 y3, .int .i64 y4, .int .i64 y5, .int .i64 y6, .int .i64 y7] Tryd.underlying45 hi
  refine h.trans ?_
  rw [cells_port]
  have e := fun a b c d w => eql_port 9997 a b c d w
  simp only [Nat.reduceAdd] at e ⊢
  simp [Op.eqItems, List.range, List.range.loop, go_sem, e]
  repeat' split
  all_goals simp_all
theorem cells_int : Tryd.prog.cellsOf 3 = 1 := by kernel_rfl
theorem info_int' : ∃ i, Tryd.prog.info? 3 = some i := Option.isSome_iff_exists.1 (show (Tryd.prog.info? 3).isSome = true by kernel_rfl)
set_option maxRecDepth 100000 in
theorem eql_class (x0 x1 y0 y1 : Int) (w : World) : (Op.equalIn 10000 46 (.agg #[.int .i64 x0, .int .i64 x1]) (.agg #[.int .i64 y0, .int .i64 y1])).run Tryd.prog w = .ok (x0 == y0 && x1 == y1) w := by
  obtain ⟨i, hi⟩ := info_int'
  have h := run_equalIn_array (P := Tryd.prog) (w := w) (9998 + 1) (t := 46) (e := 3) (n := 2) (i := i) #[.int .i64 x0, .int .i64 x1] #[.int .i64 y0, .int .i64 y1] Tryd.underlying46 hi
  refine h.trans ?_
  rw [cells_int]
  have e := fun a b w => run_equalIn_int (P := Tryd.prog) w 9998 3 .i64 .i64 a b Tryd.underlying3
  simp only [Nat.reduceAdd] at e ⊢
  simp [Op.eqItems, List.range, List.range.loop, go_sem, e]
  repeat' split
  all_goals simp_all
attribute [local go_sem] eql_join eql_class

end Go.Proofs.YtmnkgnoljllnnaaDoor

/-
  layout.Same.
-/
namespace Go.Proofs.YtmnkgnoljllnnaaDoor
open Go.RowKit Go.Shelf

def sameL (L M : Lay) : Bool := decide (L.times = M.times) && decide (L.secs = M.secs) && decide (L.sigs = M.sigs) && decide (L.flanks = M.flanks) && decide (L.exits = M.exits)

end Go.Proofs.YtmnkgnoljllnnaaDoor

/-
  slices.Clone at the structs of a layout.
-/
namespace Go.Proofs.YtmnkgnoljllnnaaDoor
open Go.RowKit Go.Shelf

theorem flat_get {α : Type} {enc : α → List Value} {k : Nat} (hk : ∀ x, (enc x).length = k) (h0 : 0 < k) : ∀ (xs : List α) (j : Nat), (xs.flatMap enc)[j]? = (xs[j / k]?).bind fun x => (enc x)[j % k]?
  | [], j => by simp
  | x :: xs, j => by
    rw [List.flatMap_cons]
    by_cases h : j < k
    · rw [List.getElem?_append_left (by rw [hk]; exact h), Nat.div_eq_of_lt h, Nat.mod_eq_of_lt h]
      rfl
    · rw [List.getElem?_append_right (by rw [hk]; omega), hk, flat_get hk h0 xs (j - k)]
      obtain ⟨i, rfl⟩ : ∃ i, j = i + k := ⟨j - k, by omega⟩
      rw [Nat.add_sub_cancel, Nat.add_div_right _ h0, Nat.add_mod_right]
      rfl
theorem flat_len {α : Type} {enc : α → List Value} {k : Nat} (hk : ∀ x, (enc x).length = k) (xs : List α) : (xs.flatMap enc).length = xs.length * k := by
  induction xs with
  | nil => simp
  | cons x xs ih => rw [List.flatMap_cons, List.length_append, hk, ih, List.length_cons, Nat.add_mul, Nat.one_mul, Nat.add_comm]
theorem add_at {b o j : Nat} : (⟨b, o, none⟩ : Addr).add j = ⟨b, o + j, none⟩ := by unfold Addr.add; split <;> simp_all
theorem flat_cells {α : Type} {enc : α → List Value} {k : Nat} (hk : ∀ x, (enc x).length = k) (h0 : 0 < k) {W : World} {b off : Nat} {xs : List α} (h : RowAt' W k enc b off xs) (j : Nat) (u : Value) (hu : (xs.flatMap enc)[j]? = some u) : W.cell? ((⟨b, off, none⟩ : Addr).add j) = some u := by
  rw [flat_get hk h0] at hu
  obtain ⟨x, hx, hv⟩ := Option.bind_eq_some_iff.1 hu
  rw [add_at]
  have := h.2 (j / k) x hx (j % k) u hv
  rwa [Nat.add_assoc, Nat.mul_comm, Nat.div_add_mod] at this
theorem at_of_row {α : Type} {enc : α → List Value} {k : Nat} (hk : ∀ x, (enc x).length = k) (h0 : 0 < k) {W : World} {B e : Nat} {v : Value} {xs : List α} (h : W.ownsRow B e k v xs.length (xs.flatMap enc)) : Sl W k enc v xs := by
  have hc := fun g hg => h.cells (g := g) hg
  rcases h.2 with ⟨rfl, hz⟩ | ⟨g, cap, cur, rfl, hb, hg, h1, h2, _, _⟩
  · exact ⟨none, 0, by rw [hz], by omega, by unfold maxLen; omega, .inl (List.eq_nil_of_length_eq_zero hz)⟩
  · refine ⟨_, cap, rfl, h1, h2, .inr ⟨g, 0, rfl, (Array.getElem?_eq_some_iff.1 hg).1, fun j x hx i u hu => ?_⟩⟩
    have hlt : i < k := by rw [← hk x]; exact (List.getElem?_eq_some_iff.1 hu).1
    have := hc g rfl (j * k + i) u (by
      rw [flat_get hk h0, show (j * k + i) / k = j by rw [Nat.mul_comm, Nat.mul_add_div h0, Nat.div_eq_of_lt hlt]; omega, hx, show (j * k + i) % k = i by rw [Nat.mul_comm, Nat.mul_add_mod]; exact Nat.mod_eq_of_lt hlt]
      exact hu)
    rw [add_at] at this
    rwa [Nat.add_assoc]
/-- A copy comes back, in a row of its own. -/
def CloneOf {α : Type} (e : TypeId) (k : Nat) (enc : α → List Value) (xs : List α) (w : World) (en : Ending) (w' : World) : Prop :=
  ∃ v, en = .returned v ∧ w'.ownsRow w.heap.size e k v xs.length (xs.flatMap enc) ∧ Below w.heap.size w w'

theorem info_Section : ∃ i z, Tryd.prog.info? 48 = some i ∧ i.zero = some z ∧ i.size = 11 ∧ z.cells.size = 11 ∧ i.bytes ≤ 100 := by
  have h : (Tryd.prog.info? 48).any (fun i => (match i.zero with | some z => decide (z.cells.size = 11) | none => false) && decide (i.size = 11) && decide (i.bytes ≤ 100)) = true := by kernel_rfl
  cases hi : Tryd.prog.info? 48 with
  | none => rw [hi] at h; cases h
  | some i =>
    rw [hi] at h
    simp only [Option.any_some, Bool.and_eq_true, decide_eq_true_iff] at h
    cases hz : i.zero with
    | none => rw [hz] at h; simp at h
    | some z =>
      rw [hz] at h
      simp at h
      exact ⟨i, z, rfl, hz, h.1.2, h.1.1, h.2⟩
theorem info_Signal : ∃ i z, Tryd.prog.info? 51 = some i ∧ i.zero = some z ∧ i.size = 2 ∧ z.cells.size = 2 ∧ i.bytes ≤ 100 := by
  have h : (Tryd.prog.info? 51).any (fun i => (match i.zero with | some z => decide (z.cells.size = 2) | none => false) && decide (i.size = 2) && decide (i.bytes ≤ 100)) = true := by kernel_rfl
  cases hi : Tryd.prog.info? 51 with
  | none => rw [hi] at h; cases h
  | some i =>
    rw [hi] at h
    simp only [Option.any_some, Bool.and_eq_true, decide_eq_true_iff] at h
    cases hz : i.zero with
    | none => rw [hz] at h; simp at h
    | some z =>
      rw [hz] at h
      simp at h
      exact ⟨i, z, rfl, hz, h.1.2, h.1.1, h.2⟩
theorem info_Flank : ∃ i z, Tryd.prog.info? 53 = some i ∧ i.zero = some z ∧ i.size = 4 ∧ z.cells.size = 4 ∧ i.bytes ≤ 100 := by
  have h : (Tryd.prog.info? 53).any (fun i => (match i.zero with | some z => decide (z.cells.size = 4) | none => false) && decide (i.size = 4) && decide (i.bytes ≤ 100)) = true := by kernel_rfl
  cases hi : Tryd.prog.info? 53 with
  | none => rw [hi] at h; cases h
  | some i =>
    rw [hi] at h
    simp only [Option.any_some, Bool.and_eq_true, decide_eq_true_iff] at h
    cases hz : i.zero with
    | none => rw [hz] at h; simp at h
    | some z =>
      rw [hz] at h
      simp at h
      exact ⟨i, z, rfl, hz, h.1.2, h.1.1, h.2⟩
theorem info_Exit : ∃ i z, Tryd.prog.info? 40 = some i ∧ i.zero = some z ∧ i.size = 3 ∧ z.cells.size = 3 ∧ i.bytes ≤ 100 := by
  have h : (Tryd.prog.info? 40).any (fun i => (match i.zero with | some z => decide (z.cells.size = 3) | none => false) && decide (i.size = 3) && decide (i.bytes ≤ 100)) = true := by kernel_rfl
  cases hi : Tryd.prog.info? 40 with
  | none => rw [hi] at h; cases h
  | some i =>
    rw [hi] at h
    simp only [Option.any_some, Bool.and_eq_true, decide_eq_true_iff] at h
    cases hz : i.zero with
    | none => rw [hz] at h; simp at h
    | some z =>
      rw [hz] at h
      simp at h
      exact ⟨i, z, rfl, hz, h.1.2, h.1.1, h.2⟩
theorem info_Step : ∃ i z, Tryd.prog.info? 42 = some i ∧ i.zero = some z ∧ i.size = 3 ∧ z.cells.size = 3 ∧ i.bytes ≤ 100 := by
  have h : (Tryd.prog.info? 42).any (fun i => (match i.zero with | some z => decide (z.cells.size = 3) | none => false) && decide (i.size = 3) && decide (i.bytes ≤ 100)) = true := by kernel_rfl
  cases hi : Tryd.prog.info? 42 with
  | none => rw [hi] at h; cases h
  | some i =>
    rw [hi] at h
    simp only [Option.any_some, Bool.and_eq_true, decide_eq_true_iff] at h
    cases hz : i.zero with
    | none => rw [hz] at h; simp at h
    | some z =>
      rw [hz] at h
      simp at h
      exact ⟨i, z, rfl, hz, h.1.2, h.1.1, h.2⟩
end Go.Proofs.YtmnkgnoljllnnaaDoor

/-
  lockbarlaw06.line: the layout of the law's own examples.
-/
namespace Go.Proofs.YtmnkgnoljllnnaaDoor
open Go.RowKit Go.Shelf

def lineL : Lay := ⟨[⟨1, -1, 0, 1, 0, -1, 0, -1, 0, 0, 0⟩, ⟨2, 0, 1, 2, 0, 3, 0, -1, 0, 0, 1⟩, ⟨1, 1, 1, -1, 0, -1, 0, -1, 0, 0, 0⟩, ⟨1, 1, 2, -1, 0, -1, 0, -1, 0, 0, 0⟩], [⟨0, 0⟩], [⟨1, 1, [⟨2, 0, 1⟩]⟩, ⟨3, 1, []⟩], [], 1, 1, 1, 1, 1, 1, 1⟩
/-- Where line's slices lie, from block n on. -/
def lineP (n : Nat) : Where := ⟨some ⟨n, 0, none⟩, some ⟨n + 1, 0, none⟩, some ⟨n + 1 + 1 + 1, 0, none⟩, none, 4, 1, 2, 0⟩
/-- The cells of line's blocks, from block n on. -/
structure LineAt (W : World) (n : Nat) : Prop where
  lt : n + 1 + 1 + 1 < W.heap.size
  secs : RowAt' W 11 Sec.enc n 0 lineL.secs
  sigs : RowAt' W 2 Prt.enc (n + 1) 0 lineL.sigs
  over : RowAt' W 3 Stp.enc (n + 1 + 1) 0 [⟨2, 0, 1⟩]
  exits : RowAt' W 3 Ext'.enc (n + 1 + 1 + 1) 0 [(⟨1, 1, [⟨2, 0, 1⟩]⟩, .slice (some ⟨n + 1 + 1, 0, none⟩) 1 1), (⟨3, 1, []⟩, .slice none 0 0)]
theorem LineAt.below {W W' : World} {n : Nat} (h : LineAt W n) (hb : Below W.heap.size W W') : LineAt W' n :=
  ⟨Nat.lt_of_lt_of_le h.lt hb.size, h.secs.below hb, h.sigs.below hb, h.over.below hb, h.exits.below hb⟩
theorem LineAt.lay {W : World} {n : Nat} (h : LineAt W n) : LayAt W (lineP n) lineL := by
  refine ⟨.inr ⟨_, _, rfl, h.secs⟩, .inr ⟨_, _, rfl, h.sigs⟩, ⟨_, rfl, .inr ⟨_, _, rfl, h.exits⟩, fun e he => ?_⟩, .inl rfl, by simp [lineL, lineP], by simp [lineL, lineP], by simp [lineL, lineP], by simp [lineL, lineP], by simp [lineL]⟩
  simp only [List.mem_cons, List.not_mem_nil, or_false] at he
  rcases he with rfl | rfl
  · exact ⟨_, _, rfl, by simp, by unfold maxLen; omega, .inr ⟨_, _, rfl, h.over⟩⟩
  · exact ⟨_, _, rfl, by simp, by unfold maxLen; omega, .inl rfl⟩

theorem rowAt_flat {α : Type} {W : World} {k : Nat} {enc : α → List Value} {b : Nat} {xs : List α} (hk : ∀ x, (enc x).length = k) (h0 : 0 < k) (hb : b < W.heap.size) (hc : ∀ (o : Nat) (v : Value), (xs.flatMap enc)[o]? = some v → W.cell? ⟨b, o, none⟩ = some v) : RowAt' W k enc b 0 xs :=
  ⟨hb, fun j x hj i v hv => by
    rw [Nat.zero_add]
    have hlt : i < k := by rw [← hk x]; exact (List.getElem?_eq_some_iff.1 hv).1
    refine hc _ _ ?_
    rw [flat_get hk h0, show (j * k + i) / k = j by rw [Nat.mul_comm, Nat.mul_add_div h0, Nat.div_eq_of_lt hlt]; omega, hj, show (j * k + i) % k = i by rw [Nat.mul_comm, Nat.mul_add_mod]; exact Nat.mod_eq_of_lt hlt]
    exact hv⟩

end Go.Proofs.YtmnkgnoljllnnaaDoor
