/-
  The walk of PlanTells.
-/
import Derived.Test.YtpnnbihofoomeaaDoorM16

namespace Go.Proofs.YtpnnbihofoomeaaDoor
open Go.RowKit Go.Shelf
attribute [local go_sem] Oper.semAt_some

/-- The bytes and the error that Put tells. -/
def putB (L : Lay) : List Nat := if rightL L = true then bytesL L else []
def putX (L : Lay) : Int := if rightL L = true then 0 else 60
theorem put_uni {L : Lay} {w w' : World} {e : Ending} (h : PutOf L w e w') : ∃ A c, e = .returned (.tuple #[.slice A (putB L).length c, .int .i64 (putX L)]) ∧ At w' 1 bEnc A (putB L) ∧ Below w.heap.size w w' := by
  obtain ⟨hc, hb⟩ := h
  rcases hc with ⟨hr, rfl⟩ | ⟨hr, v, rfl, hv⟩
  · refine ⟨none, 0, ?_, ?_, hb⟩
    · simp [putB, putX, hr]
    · simp only [putB, hr]
      exact .inl rfl
  · obtain ⟨A, c, rfl⟩ := ownsV hv
    refine ⟨A, c, ?_, ?_, hb⟩
    · simp [putB, putX, hr]
    · simp only [putB, hr, if_true]
      exact row_at rfl hv
theorem putB_lt (L : Lay) : ∀ b ∈ putB L, b < 256 := by
  unfold putB
  split
  · exact pack_lt _
  · intro b hb
    cases hb
theorem take_uni {bs : List Nat} {T : Lay} {y : Int} {w w' : World} {e : Ending} (ht : takeL bs = (T, y)) (h : TakeOf bs w e w') : ∃ p, e = .returned (.tuple #[T.val p, .int .i64 y]) ∧ LayAt w' p T ∧ Below w.heap.size w w' := by
  obtain ⟨⟨p, es, he, ho⟩, hb⟩ := h
  rw [ht] at he ho
  exact ⟨p, he, ho.lay, hb⟩

set_option maxRecDepth 100000 in
set_option maxHeartbeats 32000000 in
theorem planTells_walk (L : Lay) (P : Where) (A : Option Addr) (cap : Nat) (bs : List Nat) (w : World) (hL : LayAt w P L) (hA : At w 1 bEnc A bs) (h8 : ∀ b ∈ bs, b < 256) (hlc : bs.length ≤ cap) (hcm : cap ≤ 9223372036854775807) (K : Kinds w) :
    Calls Tryd.prog 3 #[L.val P, .slice A bs.length cap] w fun e w' => e = .returned (.bool true) ∧ Below w.heap.size w w' := by
  obtain ⟨n, hn⟩ : ∃ n, n = bs.length := ⟨_, rfl⟩
  have hnm : n ≤ 9223372036854775807 := by omega
  rw [← hn]
  have HGL := Lib.hid (fun w1 (b : Below w.heap.size w w1) => rGreat_of L P w1 (hL.below b))
  have HPL := Lib.hid (fun w1 (b : Below w.heap.size w w1) => put_any L P w1 (hL.below b) (K.below b))
  have HPR := Lib.hid (fun w1 (b : Below w.heap.size w w1) => put8r_any L P w1 (hL.below b))
  have HSZ := Lib.hid (fun w1 (b : Below w.heap.size w w1) => size_any L P w1 (hL.below b) (K.below b))
  have HSR := Lib.hid (fun w1 (b : Below w.heap.size w w1) => size8_any L P w1 (hL.below b))
  have HW := Lib.hid (fun w1 (b : Below w.heap.size w w1) => wakes8_any w1 (K.below b))
  have HTK := Lib.hid (fun w1 (b : Below w.heap.size w w1) (hl : bs.length ≤ 1000) => take_any A n cap bs w1 hn (hA.below b) hl h8 (K.below b))
  have HTR := Lib.hid (fun w1 (b : Below w.heap.size w w1) (hl : bs.length ≤ 1000) => take8_any A n cap bs w1 hn (hA.below b) hl h8)
  have HN := Lib.hid hn
  have HX := Lib.hid (⟨bself, BoxL.make (W := w) (L := L) (p := P) (n := w.heap.size) 29 rfl⟩ : Below w.heap.size w (w.alloc (.cells (L.cells P).toArray 29)) ∧ _)
  clear hL hA K h8 hn hlc hcm
  obtain ⟨a0, a1, a2, a3, p0, p1, p2, p3⟩ := P
  unfold Lay.val at *
  unfold Lay.cells at HX
  dsimp only at HX
  obtain ⟨W0, hW0⟩ : ∃ W0, W0 = w.alloc (.cells #[.slice a0 L.secs.length p0, .slice a1 L.sigs.length p1, .slice a2 L.exits.length p2, .slice a3 L.flanks.length p3, .int .i64 L.t0, .int .i64 L.t1, .int .i64 L.t2, .int .i64 L.t3, .int .i64 L.t4, .int .i64 L.t5, .int .i64 L.t6] 29) := ⟨_, rfl⟩
  rw [← hW0] at HX
  go_enter Tryd.func3, Tryd.ntmps3
  go_wp2_with fail
  rw [← hW0]
  clear hW0
  (with_reducible refine (HGL.out _ HX.out.1).mono ?_)
  rintro e w1 ⟨b, rfl, hfew, b1⟩
  have H1 := Lib.hid (⟨bchain HX.out.1 b1, HX.out.2.below b1⟩ : Below w.heap.size w w1 ∧ _)
  clear hfew b1 HX HGL
  obtain ⟨x0, x1, x2, x3, x4, x5, x6, x7, x8, x9, x10⟩ := H1.out.2.cells
  dsimp only at x0 x1 x2 x3
  have xl := H1.out.2.1
  cases b with
  | true =>
    go_wp2_with fail
    (with_reducible refine (HW.out _ H1.out.1).mono ?_)
    rintro e w9 ⟨rfl, b9⟩
    have HB9 := Lib.hid (bchain (H1.out.1) b9)
    clear b9
    go_wp2
    go_ret
    exact ⟨rfl, HB9.out⟩
  | false =>
  by_cases hl : (n : Int) > 300
  · have d1 : decide ((n : Int) > 300) = true := decide_eq_true hl
    have d2 : (300 : Int) < (n : Int) := hl
    have d3 : 300 < n := by omega
    go_wp2_with fail
    (with_reducible refine (HW.out _ H1.out.1).mono ?_)
    rintro e w9 ⟨rfl, b9⟩
    have HB9 := Lib.hid (bchain (H1.out.1) b9)
    clear b9
    go_wp2
    go_ret
    exact ⟨rfl, HB9.out⟩
  have d1 : decide ((n : Int) > 300) = false := decide_eq_false hl
  have d2 : ¬ (300 : Int) < (n : Int) := hl
  have d3 : ¬ 300 < n := by omega
  have hl1 : bs.length ≤ 1000 := by have := HN.out; omega
  go_wp2_with fail
  (with_reducible refine (HPL.out _ H1.out.1).mono ?_)
  intro e w2 hp
  obtain ⟨B, d, rfl, hB, b2⟩ := put_uni hp
  obtain ⟨m, hm⟩ : ∃ m, m = (putB L).length := ⟨_, rfl⟩
  obtain ⟨x, hx⟩ : ∃ x, x = putX L := ⟨_, rfl⟩
  rw [← hm, ← hx]
  have H2 := Lib.hid (⟨bchain H1.out.1 b2, H1.out.2.below b2, hm, hx, hB⟩ : Below w.heap.size w w2 ∧ _ ∧ m = (putB L).length ∧ x = putX L ∧ At w2 1 bEnc B (putB L))
  clear hp b2 hB hm hx d1 d2 d3 hl HPL H1 x0 x1 x2 x3 x4 x5 x6 x7 x8 x9 x10 xl
  obtain ⟨x0, x1, x2, x3, x4, x5, x6, x7, x8, x9, x10⟩ := H2.out.2.1.cells
  dsimp only at x0 x1 x2 x3
  have xl := H2.out.2.1.1
  go_wp2_with fail
  (with_reducible refine (HPR.out _ H2.out.1).mono ?_)
  intro e w3 hp
  obtain ⟨C, f, rfl, hC, b3⟩ := put_uni hp
  rw [← H2.out.2.2.1, ← H2.out.2.2.2.1]
  have H3 := Lib.hid (⟨bchain H2.out.1 b3, H2.out.2.1.below b3, H2.out.2.2.1, H2.out.2.2.2.2.below b3, hC⟩ : Below w.heap.size w w3 ∧ _ ∧ m = (putB L).length ∧ At w3 1 bEnc B (putB L) ∧ At w3 1 bEnc C (putB L))
  clear hp b3 hC HPR H2 x0 x1 x2 x3 x4 x5 x6 x7 x8 x9 x10 xl
  obtain ⟨T, y, hT⟩ : ∃ T y, takeL bs = (T, y) := ⟨_, _, rfl⟩
  have HT := Lib.hid hT
  clear hT
  go_wp2_with fail
  (with_reducible refine (HTK.out _ H3.out.1 hl1).mono ?_)
  intro e w4 hp
  obtain ⟨s1, rfl, hT1, b4⟩ := take_uni HT.out hp
  obtain ⟨X, hX⟩ : ∃ X, X = w4.alloc (.cells (T.cells s1).toArray 29) := ⟨_, rfl⟩
  have bX : Below w4.heap.size w4 X := by rw [hX]; exact bself
  have xX : BoxL X w4.heap.size T s1 := by rw [hX]; exact BoxL.make _ rfl
  have b34 := bchain b4 bX
  have H4 := Lib.hid (⟨bchain H3.out.1 b34, H3.out.2.1.below b34, xX, H3.out.2.2.1, H3.out.2.2.2.1.below b34, H3.out.2.2.2.2.below b34, hT1.below bX⟩ : Below w.heap.size w X ∧ BoxL X w.heap.size L _ ∧ _ ∧ m = (putB L).length ∧ At X 1 bEnc B (putB L) ∧ At X 1 bEnc C (putB L) ∧ LayAt X s1 T)
  obtain ⟨g, hg⟩ : ∃ g, g = w4.heap.size := ⟨_, rfl⟩
  go_wp2_with fail
  unfold Lay.cells at hX
  rw [← hX]
  rw [← hg] at H4 ⊢
  clear hX bX xX hp b4 b34 hT1 hg HTK H3
  (with_reducible refine (HTR.out _ H4.out.1 hl1).mono ?_)
  intro e w5 hp
  obtain ⟨s2, rfl, hT2, b5⟩ := take_uni HT.out hp
  obtain ⟨Z, hZ⟩ : ∃ Z, Z = w5.alloc (.cells (T.cells s2).toArray 29) := ⟨_, rfl⟩
  have bZ : Below w5.heap.size w5 Z := by rw [hZ]; exact bself
  have zZ : BoxL Z w5.heap.size T s2 := by rw [hZ]; exact BoxL.make _ rfl
  have b45 := bchain b5 bZ
  obtain ⟨g2, hg2⟩ : ∃ g2, g2 = w5.heap.size := ⟨_, rfl⟩
  have HZ := Lib.hid (⟨bchain H4.out.1 b45, H4.out.2.1.below b45, H4.out.2.2.1.below b45, by rw [hg2]; exact zZ⟩ : Below w.heap.size w Z ∧ BoxL Z w.heap.size L _ ∧ BoxL Z g T s1 ∧ BoxL Z g2 T s2)
  have HR := Lib.hid (⟨H4.out.2.2.2.1, H4.out.2.2.2.2.1.below b45, H4.out.2.2.2.2.2.1.below b45, H4.out.2.2.2.2.2.2.below b45, hT2.below bZ⟩ : m = (putB L).length ∧ At Z 1 bEnc B (putB L) ∧ At Z 1 bEnc C (putB L) ∧ LayAt Z s1 T ∧ LayAt Z s2 T)
  clear bZ zZ hp b5 b45 hT2 HTR H4
  go_upto_region 7 with fail
  unfold Lay.cells at hZ
  rw [← hZ]
  rw [← hg2]
  clear hZ hg2
  obtain ⟨k, hk⟩ : ∃ k, k = sizeL L := ⟨_, rfl⟩
  have k1 : ∀ V, ClB Z V → Calls Tryd.prog 13 #[.slice B m d, .slice C m f] V fun e w' => e = .returned (.bool true) ∧ Below V.heap.size V w' := fun V hC => (same8_any B C m m d f _ _ V HR.out.1 HR.out.1 (HR.out.2.1.below hC) (HR.out.2.2.1.below hC) (putB_lt L) (putB_lt L)).mono fun e w' ⟨h1, h2⟩ => ⟨by rw [h1]; exact congrArg (fun b => Ending.returned (.bool b)) (decide_eq_true rfl), by rw [h2]; exact Below.refl _ _⟩
  have k2 : ∀ V, ClB Z V → Calls Tryd.prog 14 #[.agg #[.slice s1.a0 T.secs.length s1.c0, .slice s1.a1 T.sigs.length s1.c1, .slice s1.a2 T.exits.length s1.c2, .slice s1.a3 T.flanks.length s1.c3, .int .i64 T.t0, .int .i64 T.t1, .int .i64 T.t2, .int .i64 T.t3, .int .i64 T.t4, .int .i64 T.t5, .int .i64 T.t6], .agg #[.slice s2.a0 T.secs.length s2.c0, .slice s2.a1 T.sigs.length s2.c1, .slice s2.a2 T.exits.length s2.c2, .slice s2.a3 T.flanks.length s2.c3, .int .i64 T.t0, .int .i64 T.t1, .int .i64 T.t2, .int .i64 T.t3, .int .i64 T.t4, .int .i64 T.t5, .int .i64 T.t6]] V fun e w' => e = .returned (.bool true) ∧ Below V.heap.size V w' := fun V hC => by
    have h := rSame_any T T s1 s2 V (HR.out.2.2.2.1.below hC) (HR.out.2.2.2.2.below hC)
    rw [(same_iff T T).2 ⟨rfl, rfl, rfl, rfl, rfl⟩] at h
    exact h
  have k3 : ∀ V, ClB Z V → Calls Tryd.prog 15 #[.agg #[.slice a0 L.secs.length p0, .slice a1 L.sigs.length p1, .slice a2 L.exits.length p2, .slice a3 L.flanks.length p3, .int .i64 L.t0, .int .i64 L.t1, .int .i64 L.t2, .int .i64 L.t3, .int .i64 L.t4, .int .i64 L.t5, .int .i64 L.t6]] V fun e w' => e = .returned (.int .i64 (k : Nat)) ∧ Below V.heap.size V w' := fun V hC => by
    have h := HSZ.out V (bchain HZ.out.1 hC)
    rw [← hk] at h
    exact h
  have k4 : ∀ V, ClB Z V → Calls Tryd.prog 16 #[.agg #[.slice a0 L.secs.length p0, .slice a1 L.sigs.length p1, .slice a2 L.exits.length p2, .slice a3 L.flanks.length p3, .int .i64 L.t0, .int .i64 L.t1, .int .i64 L.t2, .int .i64 L.t3, .int .i64 L.t4, .int .i64 L.t5, .int .i64 L.t6]] V fun e w' => e = .returned (.int .i64 (k : Nat)) ∧ Below V.heap.size V w' := fun V hC => by
    have h := HSR.out V (bchain HZ.out.1 hC)
    rw [← hk] at h
    exact h
  have HC := Lib.hid (⟨k1, k2, k3, k4, fun V (hC : ClB Z V) => HW.out V (bchain HZ.out.1 hC)⟩ : _ ∧ _ ∧ _ ∧ _ ∧ _)
  clear k1 k2 k3 k4 hk HSZ HSR HW HR
  refine wp_region_rel_below [([(5, none)], none), ([(7, none)], none), ([(41, some 1), (42, some 0)], none), ([(43, some 0)], none), ([(6, none), (44, some 0)], some (44, true)), ([(8, none), (44, some 1)], some (44, true)), ([(45, some 1), (46, some 0), (44, some 2)], some (44, true)), ([(44, some 3), (47, some 0)], none), ([(48, some 0)], none), ([(9, none), (49, some 0)], some (49, true)), ([(11, none), (49, some 1)], some (49, true)), ([(50, some 1), (51, some 0), (49, some 2)], some (49, true)), ([(49, some 3), (52, some 0)], none), ([(53, some 0)], none), ([(10, none), (54, some 0)], some (54, true)), ([(12, none), (54, some 1)], some (54, true)), ([(55, some 1), (56, some 0), (54, some 2)], some (54, true)), ([(54, some 3), (57, some 0)], none), ([(58, some 0)], none), ([(2, none), (59, some 0)], some (59, true)), ([(60, some 0), (59, some 1)], some (59, true)), ([(2, none), (59, some 2)], some (59, true)), ([(62, some 0), (59, some 3)], some (59, true)), ([(61, some 2), (63, some 0), (59, some 4)], some (59, true)), ([(59, some 5), (64, some 0)], none), ([(65, some 0)], none), ([(66, some 0)], some (66, true)), ([(66, some 1)], some (66, true)), ([(67, some 1), (68, some 0), (66, some 2)], some (66, true)), ([(66, some 3), (69, some 0)], none), ([(70, some 0)], none), ([(71, some 0)], some (71, true)), ([(71, some 1), (72, some 0)], none), ([(73, some 0)], none)] [(0, 4)] (by kernel_rfl) (by kernel_rfl) ?_
  refine ob_det (c := .slice B m d) ?_ ?_
  · intro ρ W hk hC
    simp only [seen, obOp]
    rintro h5
    replace h5 : ρ (.tmp 5) = .slice B m d := h5.trans rfl
    exact rel_value (by simp [go_sem, h5]) hC
  refine ob_det (c := .slice C m f) ?_ ?_
  · intro ρ W hk hC
    simp only [seen, obOp]
    rintro h7
    replace h7 : ρ (.tmp 7) = .slice C m f := h7.trans rfl
    exact rel_value (by simp [go_sem, h7]) hC
  refine ob_det (c := .bool true) ?_ ?_
  · intro ρ W hk hC
    simp only [seen, obOp, List.getD_cons_zero, List.getD_cons_succ]
    rintro h41 h42
    exact rel_call (f := 13) (args := #[.slice B m d, .slice C m f]) (by simp [go_sem, h41, h42, hk.func]) hC (HC.out.1 W hC)
  refine ob_det (c := .bool true) ?_ ?_
  · intro ρ W hk hC
    simp only [seen, obOp, List.getD_cons_zero]
    rintro h43
    exact rel_value (by simp [go_sem, h43]) hC
  refine ob_det (c := .int .i64 x) ?_ ?_
  · intro ρ W hk hC
    simp only [seen, obOp, List.getD_cons_zero]
    rintro h6 h44
    replace h6 : ρ (.tmp 6) = .int .i64 x := h6.trans rfl
    refine ⟨fun _ => ?_, fun hn => absurd h44 hn⟩
    exact rel_value (by simp [go_sem, h6]) hC
  refine ob_det (c := .int .i64 x) ?_ ?_
  · intro ρ W hk hC
    simp only [seen, obOp, List.getD_cons_zero, List.getD_cons_succ]
    rintro h8 h44
    replace h8 : ρ (.tmp 8) = .int .i64 x := h8.trans rfl
    refine ⟨fun _ => ?_, fun hn => absurd h44 hn⟩
    exact rel_value (by simp [go_sem, h8]) hC
  refine ob_det (c := .bool true) ?_ ?_
  · intro ρ W hk hC
    simp only [seen, obOp, List.getD_cons_zero, List.getD_cons_succ]
    rintro h45 h46 h44
    refine ⟨fun _ => ?_, fun hn => absurd h44 hn⟩
    exact rel_value (by simp [go_sem, h45, h46]) hC
  refine ob_det (c := .bool true) ?_ ?_
  · intro ρ W hk hC
    simp only [seen, obOp, List.getD_cons_zero, List.getD_cons_succ]
    rintro h44 h47
    exact rel_value (by simp [go_sem, h44, h47, hk.const]) hC
  refine ob_det (c := .bool true) ?_ ?_
  · intro ρ W hk hC
    simp only [seen, obOp, List.getD_cons_zero]
    rintro h48
    exact rel_value (by simp [go_sem, h48]) hC
  refine ob_det (c := .agg #[.slice s1.a0 T.secs.length s1.c0, .slice s1.a1 T.sigs.length s1.c1, .slice s1.a2 T.exits.length s1.c2, .slice s1.a3 T.flanks.length s1.c3, .int .i64 T.t0, .int .i64 T.t1, .int .i64 T.t2, .int .i64 T.t3, .int .i64 T.t4, .int .i64 T.t5, .int .i64 T.t6]) ?_ ?_
  · intro ρ W hk hC
    simp only [seen, obOp, List.getD_cons_zero]
    rintro h9 h49
    replace h9 : ρ (.tmp 9) = .pointer (some ⟨g, 0, none⟩) := h9.trans rfl
    refine ⟨fun _ => ?_, fun hn => absurd h49 hn⟩
    exact rel_value (runLoad h9 (HZ.out.2.2.1.below hC)) hC
  refine ob_det (c := .agg #[.slice s2.a0 T.secs.length s2.c0, .slice s2.a1 T.sigs.length s2.c1, .slice s2.a2 T.exits.length s2.c2, .slice s2.a3 T.flanks.length s2.c3, .int .i64 T.t0, .int .i64 T.t1, .int .i64 T.t2, .int .i64 T.t3, .int .i64 T.t4, .int .i64 T.t5, .int .i64 T.t6]) ?_ ?_
  · intro ρ W hk hC
    simp only [seen, obOp, List.getD_cons_zero, List.getD_cons_succ]
    rintro h11 h49
    replace h11 : ρ (.tmp 11) = .pointer (some ⟨g2, 0, none⟩) := h11.trans rfl
    refine ⟨fun _ => ?_, fun hn => absurd h49 hn⟩
    exact rel_value (runLoad h11 (HZ.out.2.2.2.below hC)) hC
  refine ob_det (c := .bool true) ?_ ?_
  · intro ρ W hk hC
    simp only [seen, obOp, List.getD_cons_zero, List.getD_cons_succ]
    rintro h50 h51 h49
    refine ⟨fun _ => ?_, fun hn => absurd h49 hn⟩
    exact rel_call (f := 14) (args := #[.agg #[.slice s1.a0 T.secs.length s1.c0, .slice s1.a1 T.sigs.length s1.c1, .slice s1.a2 T.exits.length s1.c2, .slice s1.a3 T.flanks.length s1.c3, .int .i64 T.t0, .int .i64 T.t1, .int .i64 T.t2, .int .i64 T.t3, .int .i64 T.t4, .int .i64 T.t5, .int .i64 T.t6], .agg #[.slice s2.a0 T.secs.length s2.c0, .slice s2.a1 T.sigs.length s2.c1, .slice s2.a2 T.exits.length s2.c2, .slice s2.a3 T.flanks.length s2.c3, .int .i64 T.t0, .int .i64 T.t1, .int .i64 T.t2, .int .i64 T.t3, .int .i64 T.t4, .int .i64 T.t5, .int .i64 T.t6]]) (by simp [go_sem, h50, h51, hk.func]) hC (HC.out.2.1 W hC)
  refine ob_det (c := .bool true) ?_ ?_
  · intro ρ W hk hC
    simp only [seen, obOp, List.getD_cons_zero, List.getD_cons_succ]
    rintro h49 h52
    exact rel_value (by simp [go_sem, h49, h52, hk.const]) hC
  refine ob_det (c := .bool true) ?_ ?_
  · intro ρ W hk hC
    simp only [seen, obOp, List.getD_cons_zero]
    rintro h53
    exact rel_value (by simp [go_sem, h53]) hC
  refine ob_det (c := .int .i64 y) ?_ ?_
  · intro ρ W hk hC
    simp only [seen, obOp, List.getD_cons_zero]
    rintro h10 h54
    replace h10 : ρ (.tmp 10) = .int .i64 y := h10.trans rfl
    refine ⟨fun _ => ?_, fun hn => absurd h54 hn⟩
    exact rel_value (by simp [go_sem, h10]) hC
  refine ob_det (c := .int .i64 y) ?_ ?_
  · intro ρ W hk hC
    simp only [seen, obOp, List.getD_cons_zero, List.getD_cons_succ]
    rintro h12 h54
    replace h12 : ρ (.tmp 12) = .int .i64 y := h12.trans rfl
    refine ⟨fun _ => ?_, fun hn => absurd h54 hn⟩
    exact rel_value (by simp [go_sem, h12]) hC
  refine ob_det (c := .bool true) ?_ ?_
  · intro ρ W hk hC
    simp only [seen, obOp, List.getD_cons_zero, List.getD_cons_succ]
    rintro h55 h56 h54
    refine ⟨fun _ => ?_, fun hn => absurd h54 hn⟩
    exact rel_value (by simp [go_sem, h55, h56]) hC
  refine ob_det (c := .bool true) ?_ ?_
  · intro ρ W hk hC
    simp only [seen, obOp, List.getD_cons_zero, List.getD_cons_succ]
    rintro h54 h57
    exact rel_value (by simp [go_sem, h54, h57, hk.const]) hC
  refine ob_det (c := .bool true) ?_ ?_
  · intro ρ W hk hC
    simp only [seen, obOp, List.getD_cons_zero]
    rintro h58
    exact rel_value (by simp [go_sem, h58]) hC
  refine ob_det (c := .agg #[.slice a0 L.secs.length p0, .slice a1 L.sigs.length p1, .slice a2 L.exits.length p2, .slice a3 L.flanks.length p3, .int .i64 L.t0, .int .i64 L.t1, .int .i64 L.t2, .int .i64 L.t3, .int .i64 L.t4, .int .i64 L.t5, .int .i64 L.t6]) ?_ ?_
  · intro ρ W hk hC
    simp only [seen, obOp, List.getD_cons_zero]
    rintro h2 h59
    replace h2 : ρ (.tmp 2) = .pointer (some ⟨w.heap.size, 0, none⟩) := h2.trans rfl
    refine ⟨fun _ => ?_, fun hn => absurd h59 hn⟩
    exact rel_value (runLoad h2 (HZ.out.2.1.below hC)) hC
  refine ob_det (c := .int .i64 (k : Nat)) ?_ ?_
  · intro ρ W hk hC
    simp only [seen, obOp, List.getD_cons_zero, List.getD_cons_succ]
    rintro h60 h59
    refine ⟨fun _ => ?_, fun hn => absurd h59 hn⟩
    exact rel_call (f := 15) (args := #[.agg #[.slice a0 L.secs.length p0, .slice a1 L.sigs.length p1, .slice a2 L.exits.length p2, .slice a3 L.flanks.length p3, .int .i64 L.t0, .int .i64 L.t1, .int .i64 L.t2, .int .i64 L.t3, .int .i64 L.t4, .int .i64 L.t5, .int .i64 L.t6]]) (by simp [go_sem, h60, hk.func]) hC (HC.out.2.2.1 W hC)
  refine ob_det (c := .agg #[.slice a0 L.secs.length p0, .slice a1 L.sigs.length p1, .slice a2 L.exits.length p2, .slice a3 L.flanks.length p3, .int .i64 L.t0, .int .i64 L.t1, .int .i64 L.t2, .int .i64 L.t3, .int .i64 L.t4, .int .i64 L.t5, .int .i64 L.t6]) ?_ ?_
  · intro ρ W hk hC
    simp only [seen, obOp, List.getD_cons_zero, List.getD_cons_succ]
    rintro h2 h59
    replace h2 : ρ (.tmp 2) = .pointer (some ⟨w.heap.size, 0, none⟩) := h2.trans rfl
    refine ⟨fun _ => ?_, fun hn => absurd h59 hn⟩
    exact rel_value (runLoad h2 (HZ.out.2.1.below hC)) hC
  refine ob_det (c := .int .i64 (k : Nat)) ?_ ?_
  · intro ρ W hk hC
    simp only [seen, obOp, List.getD_cons_zero, List.getD_cons_succ]
    rintro h62 h59
    refine ⟨fun _ => ?_, fun hn => absurd h59 hn⟩
    exact rel_call (f := 16) (args := #[.agg #[.slice a0 L.secs.length p0, .slice a1 L.sigs.length p1, .slice a2 L.exits.length p2, .slice a3 L.flanks.length p3, .int .i64 L.t0, .int .i64 L.t1, .int .i64 L.t2, .int .i64 L.t3, .int .i64 L.t4, .int .i64 L.t5, .int .i64 L.t6]]) (by simp [go_sem, h62, hk.func]) hC (HC.out.2.2.2.1 W hC)
  refine ob_det (c := .bool true) ?_ ?_
  · intro ρ W hk hC
    simp only [seen, obOp, List.getD_cons_zero, List.getD_cons_succ]
    rintro h61 h63 h59
    refine ⟨fun _ => ?_, fun hn => absurd h59 hn⟩
    exact rel_value (by simp [go_sem, h61, h63]) hC
  refine ob_det (c := .bool true) ?_ ?_
  · intro ρ W hk hC
    simp only [seen, obOp, List.getD_cons_zero, List.getD_cons_succ]
    rintro h59 h64
    exact rel_value (by simp [go_sem, h59, h64, hk.const]) hC
  refine ob_det (c := .bool true) ?_ ?_
  · intro ρ W hk hC
    simp only [seen, obOp, List.getD_cons_zero]
    rintro h65
    exact rel_value (by simp [go_sem, h65]) hC
  refine ob_det (c := .int .i64 200) ?_ ?_
  · intro ρ W hk hC
    simp only [seen, obOp, List.getD_cons_zero]
    rintro h66
    refine ⟨fun _ => ?_, fun hn => absurd h66 hn⟩
    exact rel_call (f := 17) (args := #[]) (by simp [go_sem, hk.func]) hC (most_any W)
  refine ob_det (c := .int .i64 200) ?_ ?_
  · intro ρ W hk hC
    simp only [seen, obOp, List.getD_cons_zero, List.getD_cons_succ]
    rintro h66
    refine ⟨fun _ => ?_, fun hn => absurd h66 hn⟩
    exact rel_call (f := 18) (args := #[]) (by simp [go_sem, hk.func]) hC (most8_any W)
  refine ob_det (c := .bool true) ?_ ?_
  · intro ρ W hk hC
    simp only [seen, obOp, List.getD_cons_zero, List.getD_cons_succ]
    rintro h67 h68 h66
    refine ⟨fun _ => ?_, fun hn => absurd h66 hn⟩
    exact rel_value (by simp [go_sem, h67, h68]) hC
  refine ob_det (c := .bool true) ?_ ?_
  · intro ρ W hk hC
    simp only [seen, obOp, List.getD_cons_zero, List.getD_cons_succ]
    rintro h66 h69
    exact rel_value (by simp [go_sem, h66, h69, hk.const]) hC
  refine ob_det (c := .bool true) ?_ ?_
  · intro ρ W hk hC
    simp only [seen, obOp, List.getD_cons_zero]
    rintro h70
    exact rel_value (by simp [go_sem, h70]) hC
  refine ob_det (c := .bool true) ?_ ?_
  · intro ρ W hk hC
    simp only [seen, obOp, List.getD_cons_zero]
    rintro h71
    refine ⟨fun _ => ?_, fun hn => absurd h71 hn⟩
    exact rel_call (f := 8) (args := #[]) (by simp [go_sem, hk.func]) hC (HC.out.2.2.2.2 W hC)
  refine ob_det (c := .bool true) ?_ ?_
  · intro ρ W hk hC
    simp only [seen, obOp, List.getD_cons_zero, List.getD_cons_succ]
    rintro h71 h72
    exact rel_value (by simp [go_sem, h71, h72, hk.const]) hC
  refine ob_det (c := .bool true) ?_ ?_
  · intro ρ W hk hC
    simp only [seen, obOp, List.getD_cons_zero]
    rintro h73
    exact rel_value (by simp [go_sem, h73]) hC
  intro vs w7 hC7
  simp only [endSeen, List.getD_cons_zero]
  intro h4
  simp only [writeAll, List.setIfInBounds_toArray, List.set_cons_zero, List.set_cons_succ, h4]
  go_wp2
  go_ret
  exact ⟨rfl, bchain HZ.out.1 hC7⟩
end Go.Proofs.YtpnnbihofoomeaaDoor

/-
  PlanTells: layouts' bytes, layouts of bytes, sizes (a layout, at most 300 bytes; whatever they are: true).
  Conditions: port.kinds and port.none (and join.end, where it is listed) start as the program's text lays them (the tied card; it ties them to the pruned copy that the seat holds).
-/
namespace Go.Proofs.YtpnnbihofoomeaaDoor
open Go.RowKit Go.WideShapes Go.ChangeShapes Go.ChangeAt Go.WideMaps Go.WideElems Go.Joins Go.Deep

set_option maxRecDepth 100000 in
theorem planTells_lifted (os : Os) (started : os.Started) (H : Type) (enc : TypeId × Value → H) :
    ReturnsInHanded {} Tryd.checked os 3 .any (fun w args => (Rows.planTellsSpec.pre enc Tryd.prog Tryd.f3 [] false w args ∧ laidMetH Tryd.prog laidL w) ∧ sizedMet enc Tryd.prog Tryd.f3 (OpenSpec.ofChange Rows.planTellsSpec) false w args)
      (Rows.planTellsSpec.post enc Tryd.prog Tryd.f3 false true false false) := by
  refine law_lifted_laid (C := Tryd.checked) (tb := 4) ownP started (by kernel_rfl) Tryd.func3
    (ChangeSpec.witness_shaped (enc := enc) (C := Tryd.checked) (os := os) (X := fun w _ => laidMetH Tryd.prog laidL w) false (World.doorLaid Tryd.prog 400 os) #[.agg #[.slice none 0 0, .slice none 0 0, .slice none 0 0, .slice none 0 0, .int .i64 0, .int .i64 0, .int .i64 0, .int .i64 0, .int .i64 0, .int .i64 0, .int .i64 0], .slice none 0 0] 8 rfl (World.shaped_of_RefB (by kernel_rfl) (by kernel_rfl)) (by kernel_rfl) (by kernel_rfl) (by kernel_rfl) (door_met os _))
    laidP (by kernel_rfl) rfl rfl Tryd.underlying4 ?_
  intro W base args ds p hval0 hA0 hlt hL
  have hval : ∀ (j : Nat) t v, Tryd.f3.params[j]? = some t → args[j]? = some v → Value.okWide Tryd.prog W .any base t v := hval0
  have hA : DataW.TrodAll enc Tryd.prog W 0 (fun _ => true) true Tryd.f3.params.toList args.toList ds p := hA0
  clear hval0 hA0
  rw [Tryd.params3] at hA hval
  obtain ⟨vs⟩ := args
  dsimp only at hA
  obtain ⟨v0, vs0, d0, ds0, p0, q0, rfl, rfl, rfl, h0, hA⟩ := trodAll_cons hA
  obtain ⟨v1, vs1, d1, ds1, p1, q1, rfl, rfl, rfl, h1, hA⟩ := trodAll_cons hA
  obtain ⟨rfl, rfl, rfl⟩ := trodAll_nil hA
  obtain ⟨L0, w0, rfl, hl0⟩ := open_layout (hval 0 29 v0 rfl rfl) h0
  obtain ⟨A1, cap1, bs1, rfl, hA1, hb1, hl1, hm1⟩ := open_bytes (hval 1 30 v1 rfl rfl) h1
  exact ⟨⟨rfl, rfl, rfl⟩, planTells_walk L0 w0 A1 cap1 bs1 W hl0 hA1 hb1 hl1 hm1 (kinds_of_laid hL)⟩

theorem planTells_holds : Rows.PlanTellsSaid :=
  OpenClaim.holds_of_wide 3 Tryd.f3 rfl rfl rfl rfl rfl rfl rfl ⟨rfl, rfl, rfl, rfl, rfl⟩ rfl rfl rfl rfl rfl (by kernel_rfl) Tryd.func3 (by kernel_rfl)
    (of_decide_eq_true (by kernel_rfl)) (by unfold Func.isWrapper; first | (rw [if_pos (by decide +kernel)]; kernel_rfl) | (rw [if_neg (of_decide_eq_false (by kernel_rfl))]; exact ⟨rfl, rfl⟩))
    (fun os started H enc _ => planTells_lifted os started H enc)

theorem planTells_card : Rows.PlanTellsCardSaid :=
  Claim7.holds_tied_plain_at .later [] [.data, .data] true (true, "479b1d365078aa6a65adb860a79fd47d98a9c035ed1b6145318c218d63b0cd9c") false
    planTells_holds (fun _ h => by cases h) (by kernel_rfl) (fun _ h => by cases h) planTells_row_tie rfl ⟨rfl, rfl⟩ (by kernel_rfl) rfl
    (fun f fn hf hfn => by
      obtain rfl : f = 3 := Option.some.inj ((show Tryd.prog.funcNamed "lockbar/lockbarlaw08.PlanTells" = some 3 by kernel_rfl).symm.trans hf) |>.symm
      obtain rfl : fn = Tryd.f3 := (Option.some.inj (Tryd.func3.symm.trans hfn)).symm
      exact ⟨by kernel_rfl, fun j t ht => by
        rw [Tryd.params3] at ht
        have hm : t ∈ [29, 30] := by simpa using Array.mem_of_getElem? ht
        have hall : ([29, 30].all fun u => !Tryd.prog.wantsStandIn u) = true := by kernel_rfl
        exact (show Tryd.prog.wantsStandIn t = false by simpa using List.all_eq_true.1 hall t hm)⟩)
    (by kernel_rfl)
#print axioms planTells_card
end Go.Proofs.YtpnnbihofoomeaaDoor
