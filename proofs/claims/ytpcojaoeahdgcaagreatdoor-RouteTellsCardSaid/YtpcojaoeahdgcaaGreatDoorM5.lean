/-
  route.Goes.
-/
import Derived.Test.YtpcojaoeahdgcaaGreatDoorM4
import Derived.Lib.AppendZerosOnto
import Derived.Lib.AppendZeros
import Derived.Deep.RegionHeld3

namespace Go.Proofs.YtpcojaoeahdgcaaGreatDoor
open Go.RowKit Go.Shelf
attribute [local go_sem] Oper.semAt_some

set_option maxRecDepth 100000 in
set_option maxHeartbeats 4000000 in
theorem goes1_any (L : Lay) (P : Where) (g : Nat) (s i o : Int) (w : World) (hL : LayAt w P L) (K : Kinds w) (hB : BoxL w g L P) :
    Calls Tryz.prog 32 #[.agg #[.int .i64 s, .int .i64 i, .int .i64 o], .pointer (some ⟨g, 0, none⟩)] w fun e w' => e = .returned (.bool (!stepB L s i o)) ∧ Below w.heap.size w w' := by
  have hcall := step_any L P s i o (w.alloc (.cells #[.int .i64 s, .int .i64 i, .int .i64 o] 47)) (hL.below bself) (K.below bself)
  generalize stepB L s i o = q at hcall ⊢
  generalize stepN L s i o = nn at hcall
  obtain ⟨c0, c1, c2, c3, c4, c5, c6, c7, c8, c9, c10⟩ := hB.cells
  have lg := hB.1
  obtain ⟨a0, a1, a2, a3, p0, p1, p2, p3⟩ := P
  dsimp only at c0 c1 c2 c3
  unfold Lay.val at hcall
  have HC := Lib.hid hcall
  clear hcall hL K hB
  go_enter Tryz.func32, Tryz.ntmps32
  go_wp2_with fail
  (with_reducible refine HC.out.mono ?_)
  rintro e w1 ⟨rfl, b1⟩
  have HB1 := Lib.hid (bnew b1)
  clear b1
  cases q <;> (go_wp2; go_ret; exact ⟨rfl, HB1.out⟩)

/-- Does the step go on from the one ahead? -/
def lnk (L : Lay) (xs : List Stp) (k : Nat) : Bool := linkB L (xs.getD (k - 1) default) (xs.getD k default)
theorem lnk_false {L : Lay} {xs : List Stp} {k : Nat} (hk : k ∈ rprs (xs.length - 1)) (h : lnk L xs k = false) : goesL L xs = false := by
  unfold rprs at hk
  rw [List.mem_range'] at hk
  obtain ⟨i, hi, rfl⟩ := hk
  have h1 : i < xs.length := by omega
  have h2 : i + 1 < xs.length := by omega
  unfold lnk at h
  rw [show 1 + 1 * i - 1 = i by omega, show 1 + 1 * i = i + 1 by omega, List.getD_eq_getElem?_getD, List.getD_eq_getElem?_getD, List.getElem?_eq_getElem h1, List.getElem?_eq_getElem h2] at h
  exact goes_un (List.getElem?_eq_getElem h1) (List.getElem?_eq_getElem h2) h
theorem goes_all {L : Lay} {xs : List Stp} (h1 : (xs.any fun x => !stepOk L x) = false) (h2 : ∀ k ∈ rprs (xs.length - 1), lnk L xs k = true) : goesL L xs = true := by
  rw [goes_iff]
  rw [List.any_eq_false] at h1
  refine ⟨fun k x hx => by simpa using h1 x (List.mem_of_getElem? hx), fun k x y hx hy => ?_⟩
  have hl := (List.getElem?_eq_some_iff.1 hy).1
  have := h2 (k + 1) (by unfold rprs; rw [List.mem_range']; exact ⟨k, by omega, by omega⟩)
  unfold lnk at this
  rw [Nat.add_sub_cancel, List.getD_eq_getElem?_getD, List.getD_eq_getElem?_getD, hx, hy] at this
  exact this
theorem goes_any_no {L : Lay} {xs : List Stp} (h1 : (xs.any fun x => !stepOk L x) = true) : goesL L xs = false := by
  rw [List.any_eq_true] at h1
  obtain ⟨x, hx, h⟩ := h1
  obtain ⟨k, hk, rfl⟩ := List.mem_iff_getElem.1 hx
  exact goes_no (List.getElem?_eq_getElem hk) (by simpa using h)

/-- A round's frame. -/
def RAx (f : Nat → Nat → Nat → Array Value) (xs : List Stp) (k : Nat) (a' : Act) (W : World) : Prop :=
  ∃ b5 b6, a' = { tmps := f b5 b6 k, defers := [] } ∧ RowAt' W 3 Stp.enc b5 0 [xs.getD (k - 1) default] ∧ RowAt' W 3 Stp.enc b6 0 [xs.getD k default]
theorem RowAt'.same {α : Type} {W W' : World} {k : Nat} {enc : α → List Value} {b off : Nat} {xs : List α} (h : RowAt' W k enc b off xs) (s : SameCells W W') (hs : W.heap.size ≤ W'.heap.size) : RowAt' W' k enc b off xs :=
  ⟨Nat.lt_of_lt_of_le h.1 hs, fun j x hx i v hv => s.cell (h.2 j x hx i v hv)⟩
theorem RAx.same {f : Nat → Nat → Nat → Array Value} {xs : List Stp} {k : Nat} {a' : Act} {W W' : World} (h : RAx f xs k a' W) (s : SameCells W W') (hs : W.heap.size ≤ W'.heap.size) : RAx f xs k a' W' := by
  obtain ⟨b5, b6, e, h1, h2⟩ := h
  exact ⟨b5, b6, e, h1.same s hs, h2.same s hs⟩
theorem row_one {W : World} {b : Nat} {x : Stp} (hb : b < W.heap.size) (h0 : W.cell? ⟨b, 0, none⟩ = some (.int .i64 x.s)) (h1 : W.cell? ⟨b, 1, none⟩ = some (.int .i64 x.i)) (h2 : W.cell? ⟨b, 2, none⟩ = some (.int .i64 x.o)) : RowAt' W 3 Stp.enc b 0 [x] := by
  refine ⟨hb, fun j y hy i v hv => ?_⟩
  cases j with
  | succ j => simp at hy
  | zero =>
    simp at hy
    subst hy
    unfold Stp.enc at hv
    match i, hv with
    | 0, hv => simp at hv; rw [← hv]; simpa using h0
    | 1, hv => simp at hv; rw [← hv]; simpa using h1
    | 2, hv => simp at hv; rw [← hv]; simpa using h2
    | i + 3, hv => simp at hv
def GX (L : Lay) (xs : List Stp) (t : Nat) (c : Code) (pre : List Nat) (W : World) : Prop := c = .ret ∧ (∃ k ∈ pre, lnk L xs k = false) ∧ W.cell? ⟨t, 0, none⟩ = some (.bool false)

set_option maxRecDepth 100000 in
set_option maxHeartbeats 16000000 in
theorem goes_any (L : Lay) (P : Where) (A : Option Addr) (cap : Nat) (xs : List Stp) (w : World) (hL : LayAt w P L) (K : Kinds w) (E : JEnd w) (hA : At w 3 Stp.enc A xs) (hl : xs.length ≤ cap) (hm : cap ≤ 9223372036854775807) :
    Calls Tryz.prog 10 #[L.val P, .slice A xs.length cap] w fun e w' => e = .returned (.bool (goesL L xs)) ∧ Below w.heap.size w w' := by
  obtain ⟨r, hr⟩ : ∃ r, r = goesL L xs := ⟨_, rfl⟩
  have hr0 : (xs.any fun x => !stepOk L x) = true → r = false := fun h => hr.trans (goes_any_no h)
  have hr1 : ∀ k, k ∈ rprs (xs.length - 1) → lnk L xs k = false → r = false := fun k h1 h2 => hr.trans (lnk_false h1 h2)
  have hr2 : (xs.any fun x => !stepOk L x) = false → (∀ k ∈ rprs (xs.length - 1), lnk L xs k = true) → r = true := fun h1 h2 => hr.trans (goes_all h1 h2)
  rw [← hr]
  obtain ⟨len, hlen⟩ : ∃ len, len = xs.length := ⟨_, rfl⟩
  have hlm : xs.length ≤ 9223372036854775807 := Nat.le_trans hl hm
  have hpr := fun W => pairs_fn A xs.length cap W
  rw [← hlen] at hpr ⊢
  have hct := fun X (hX : Below w.heap.size w X) (hBX : BoxL X w.heap.size L P) => containsStep_any 32 #[.pointer (some ⟨w.heap.size, 0, none⟩)] (enters_of Tryz.func32 (by kernel_rfl) rfl) (fun x : Stp => !stepOk L x) A cap xs X (hA.below hX) hl hm
    (fun W x _ hb => goes1_any L P w.heap.size x.s x.i x.o W (hL.below (bchain hX hb)) (K.below (bchain hX hb)) (hBX.below hb))
  have hby := fun X (hX : Below w.heap.size w X) s q => beyJ_any L P s q X (hL.below hX) (K.below hX) (E.below hX)
  obtain ⟨q, hq⟩ : ∃ q, q = xs.any fun x => !stepOk L x := ⟨_, rfl⟩
  rw [← hq] at hct hr0 hr2
  rw [← hlen] at hct
  obtain ⟨a0, a1, a2, a3, p0, p1, p2, p3⟩ := P
  unfold Lay.val at hby ⊢
  have HR := Lib.hid (⟨hr0, hr1, hr2⟩ : _ ∧ _ ∧ _)
  have HCT := Lib.hid hct
  have HBY := Lib.hid hby
  have HA := Lib.hid (⟨hA, hlm, hlen⟩ : _ ∧ _ ∧ _)
  have HPR := Lib.hid hpr
  clear hr hr0 hr1 hr2 hct hby hA hl hm hlm hlen hq hL K E hpr
  refine calls_marked w.heap.size Tryz.func10 rfl ?_
  simp only [Tryz.ntmps10, List.size_toArray, List.length_cons, List.length_nil, Nat.reduceAdd, Nat.reduceSub, Array.replicate_succ, Array.replicate_zero, List.push_toArray, List.append_toArray, List.nil_append, List.cons_append]
  go_wp2_with fail
  obtain ⟨X, hX⟩ : ∃ X, X = (w.alloc (.cells #[.slice a0 L.secs.length p0, .slice a1 L.sigs.length p1, .slice a2 L.exits.length p2, .slice a3 L.flanks.length p3, .int .i64 L.t0, .int .i64 L.t1, .int .i64 L.t2, .int .i64 L.t3, .int .i64 L.t4, .int .i64 L.t5, .int .i64 L.t6] 29)).alloc (.cells #[.bool false] 4) := ⟨_, rfl⟩
  have hB : Below w.heap.size w X := by rw [hX]; exact bchain bself bself
  have hBL : BoxL X w.heap.size L ⟨a0, a1, a2, a3, p0, p1, p2, p3⟩ := by rw [hX]; exact (BoxL.make (L := L) (p := ⟨a0, a1, a2, a3, p0, p1, p2, p3⟩) _ rfl).below bself
  have hcT : X.cell? ⟨w.heap.size + 1, 0, none⟩ = some (.bool false) := by rw [hX]; simp [go_sem]
  have hfT : X.frozen? ⟨w.heap.size + 1, 0, none⟩ = false := by rw [hX]; simp [go_sem]
  have hsz : X.heap.size = w.heap.size + 2 := by rw [hX]; simp
  rw [← hX]
  have HX := Lib.hid (⟨hB, hBL, hcT, hfT, hsz⟩ : _ ∧ _ ∧ _ ∧ _ ∧ _)
  clear hX hB hBL hcT hfT hsz
  (with_reducible refine (HCT.out X HX.out.1 HX.out.2.1).mono ?_)
  rintro e w1 ⟨rfl, b1⟩
  have ltX : w.heap.size + 1 < X.heap.size := by rw [HX.out.2.2.2.2]; omega
  have eT : w1.cell? ⟨w.heap.size + 1, 0, none⟩ = some (.bool false) := (b1.cell (p := ⟨w.heap.size + 1, 0, none⟩) ltX).trans HX.out.2.2.1
  have fT : w1.frozen? ⟨w.heap.size + 1, 0, none⟩ = false := (b1.frozen (p := ⟨w.heap.size + 1, 0, none⟩) ltX).trans HX.out.2.2.2.1
  have lt1 : w.heap.size + 1 < w1.heap.size := Nat.lt_of_lt_of_le ltX b1.size
  have H1 := Lib.hid (⟨b1, lt1⟩ : _ ∧ _)
  clear b1
  cases q with
  | true =>
    obtain rfl : r = false := HR.out.1 rfl
    go_wp2_with fail
    have hw : Writes (fun g => g = w.heap.size + 1) w1 (w1.setCell ⟨w.heap.size + 1, 0, none⟩ (.bool false)) := (Writes.refl (fun g => g = w.heap.size + 1) _).setCell (A := fun g => g = w.heap.size + 1) (p := ⟨w.heap.size + 1, 0, none⟩) rfl _
    have hbw : Below w.heap.size w (w1.setCell ⟨w.heap.size + 1, 0, none⟩ (.bool false)) := hw.below (bchain HX.out.1 H1.out.1) (Nat.le_trans HX.out.1.size H1.out.1.size) (by rintro g rfl; omega)
    refine ⟨⟨[], Marked.nil _ _⟩, fun w' hb hk => ⟨.bool false, ?_, rfl, hbw.trans hb⟩⟩
    have e1 := cells_kept hk (b := w.heap.size + 1) (o := 0) (v := .bool false) (by simp [go_sem, eT])
    simp [results, Tryz.results10, go_sem, e1]
  | false =>
  go_wp2_with fail
  (with_reducible refine (HPR.out w1).mono ?_)
  rintro e w2 ⟨rfl, rfl⟩
  go_wp2_with fail
  have hBV : Below w1.heap.size w1 (w1.alloc (.cells #[.slice A len cap] 30)) := bself
  have csV : (w1.alloc (.cells #[.slice A len cap] 30)).cell? ⟨w1.heap.size, 0, none⟩ = some (.slice A len cap) := by simp [go_sem]
  generalize w1.alloc (.cells #[.slice A len cap] 30) = V at hBV csV ⊢
  have hXV := bchain H1.out.1 hBV
  have hwV := bchain HX.out.1 hXV
  have ltV : w.heap.size + 1 < V.heap.size := Nat.lt_of_lt_of_le H1.out.2 hBV.size
  have lwV : w.heap.size ≤ V.heap.size := Nat.le_of_lt (Nat.lt_of_succ_lt ltV)
  have hBXV := HX.out.2.1.below hXV
  have eTV := (hBV.cell (p := ⟨w.heap.size + 1, 0, none⟩) lt1).trans eT
  have fTV := (hBV.frozen (p := ⟨w.heap.size + 1, 0, none⟩) lt1).trans fT
  have HSQ := Lib.hid (pairs_stops w1.heap.size A cap xs V (HA.out.1.below hwV) HA.out.2.1 (by rw [← HA.out.2.2]; exact csV))
  have HV := Lib.hid (⟨hwV, hBXV, eTV, fTV, ltV⟩ : _ ∧ _ ∧ _ ∧ _ ∧ _)
  clear hBV csV hXV hwV hBXV eTV fTV eT fT lt1 ltX
  refine wp_range_x (α := Nat) (gf := 44) (lb := #[.pointer (some ⟨w1.heap.size, 0, none⟩)]) (encs := pairV xs) rfl (enters_of Tryz.func44 (by kernel_rfl) rfl) (fun g => g = w.heap.size + 1) (by rintro g rfl; exact ltV) HSQ.out (fun _ => rfl)
    (fun pre => ∀ k ∈ pre, lnk L xs k = true) (GX L xs (w.heap.size + 1)) ?hix (fun _ h => by cases h)
    (RAx (fun b5 b6 k => #[.agg #[.slice a0 L.secs.length p0, .slice a1 L.sigs.length p1, .slice a2 L.exits.length p2, .slice a3 L.flanks.length p3, .int .i64 L.t0, .int .i64 L.t1, .int .i64 L.t2, .int .i64 L.t3, .int .i64 L.t4, .int .i64 L.t5, .int .i64 L.t6], .slice A len cap, .pointer (some ⟨w.heap.size, 0, none⟩), undef, .pointer (some ⟨w.heap.size + 1, 0, none⟩), .pointer (some ⟨b5, 0, none⟩), .pointer (some ⟨b6, 0, none⟩), .slice A len cap, .func (.func 32) #[] #[.pointer (some ⟨w.heap.size, 0, none⟩)], .bool false, .slice A len cap, .func (.func 44) #[] #[.pointer (some ⟨w1.heap.size, 0, none⟩)], stpV (xs.getD (k - 1) default), stpV (xs.getD k default), undef, undef, undef, undef, undef, undef, undef]) xs) (fun _ _ _ _ h k hs => h.same k hs) ?assign ?body ?done ?stop
  case hix =>
    rintro cd s W W' ⟨h1, h2, h3⟩ hs
    exact ⟨h1, h2, (World.cell?_of_block (w := W) (a := ⟨w.heap.size + 1, 0, none⟩) (hs _ rfl)).trans h3⟩
  case assign =>
    intro l k W Kn hb hK
    simp only [pairV, stpV]
    obtain ⟨x, hx⟩ : ∃ x, x = xs.getD (k - 1) default := ⟨_, rfl⟩
    obtain ⟨y, hy⟩ : ∃ y, y = xs.getD k default := ⟨_, rfl⟩
    rw [← hx, ← hy]
    have HXY := Lib.hid (⟨hx, hy⟩ : _ ∧ _)
    clear hx hy
    gi_wp2
    refine hK _ _ (bchain bself bself) ⟨W.heap.size, W.heap.size + 1, ?_, ?_, ?_⟩
    · dsimp only [stpV]
      rw [← HXY.out.1, ← HXY.out.2]
      try rfl
    · rw [← HXY.out.1]
      exact row_one (by simp <;> omega) (by simp [go_sem]) (by simp [go_sem]) (by simp [go_sem])
    · rw [← HXY.out.2]
      exact row_one (by simp <;> omega) (by simp [go_sem]) (by simp [go_sem]) (by simp [go_sem])
  case body =>
    rintro l pre k a' W hb hi ⟨b5, b6, rfl, r5, r6⟩ hlen
    have HI := Lib.hid hi
    have HBX := Lib.hid (HV.out.2.1.below hb)
    have HTW := Lib.hid (⟨(hb.cell (p := ⟨w.heap.size + 1, 0, none⟩) ltV).trans HV.out.2.2.1, (hb.frozen (p := ⟨w.heap.size + 1, 0, none⟩) ltV).trans HV.out.2.2.2.1, Nat.lt_of_lt_of_le ltV hb.size⟩ : _ ∧ _ ∧ _)
    have HWB := Lib.hid (bchain HV.out.1 hb)
    have hlk : lnk L xs k = linkB L (xs.getD (k - 1) default) (xs.getD k default) := rfl
    unfold stpV
    generalize xs.getD (k - 1) default = x at r5 hlk ⊢
    generalize xs.getD k default = y at r6 hlk ⊢
    obtain ⟨xa, xb, xc⟩ := x
    obtain ⟨ya, yb, yc⟩ := y
    have l5 := r5.1
    have l6 := r6.1
    have x0 : ∀ V', ClB W V' → V'.cell? ⟨b5, 0, none⟩ = some (.int .i64 xa) := fun V' h => (h.cell (p := ⟨b5, 0, none⟩) l5).trans (r5.2 0 _ rfl 0 _ rfl)
    have x1 : ∀ V', ClB W V' → V'.cell? ⟨b5, 1, none⟩ = some (.int .i64 xb) := fun V' h => (h.cell (p := ⟨b5, 1, none⟩) l5).trans (r5.2 0 _ rfl 1 _ rfl)
    have x2 : ∀ V', ClB W V' → V'.cell? ⟨b5, 2, none⟩ = some (.int .i64 xc) := fun V' h => (h.cell (p := ⟨b5, 2, none⟩) l5).trans (r5.2 0 _ rfl 2 _ rfl)
    have y0 : ∀ V', ClB W V' → V'.cell? ⟨b6, 0, none⟩ = some (.int .i64 ya) := fun V' h => (h.cell (p := ⟨b6, 0, none⟩) l6).trans (r6.2 0 _ rfl 0 _ rfl)
    have y1 : ∀ V', ClB W V' → V'.cell? ⟨b6, 1, none⟩ = some (.int .i64 yb) := fun V' h => (h.cell (p := ⟨b6, 1, none⟩) l6).trans (r6.2 0 _ rfl 1 _ rfl)
    have y2 : ∀ V', ClB W V' → V'.cell? ⟨b6, 2, none⟩ = some (.int .i64 yc) := fun V' h => (h.cell (p := ⟨b6, 2, none⟩) l6).trans (r6.2 0 _ rfl 2 _ rfl)
    have hy := fun V' (h : ClB W V') => HBY.out V' (bchain HWB.out h) xa xc
    unfold linkB at hlk
    dsimp only at hlk ⊢
    clear hi hb r5 r6
    refine wpIn_block ?_
    refine wpIn_seq_k fun K1 hK1 => ?_
    have HK1 := Lib.hid hK1
    clear hK1
    generalize beyL L xa xc = z at hy hlk
    obtain ⟨zs, zp⟩ := z
    dsimp only at hy
    have HY := Lib.hid hy
    clear hy
    have hqE := fun V' => eqQ_portI zs zp ya yb V'
    by_cases hE : zs = ya ∧ zp = yb
    · have HJB := Lib.hid (show lnk L xs k = true by rw [hlk, decide_eq_true_iff, hE.1, hE.2])
      rw [decide_eq_true hE] at hqE
      clear hlk hE
      focus
          refine wpIn_region_rel_below (.inr ⟨l, rfl⟩) [([(2, none)], none), ([(5, none)], none), ([(15, some 0)], none), ([(14, some 2), (16, some 0)], none), ([(6, none)], none), ([(18, some 0)], none), ([(17, some 2), (19, some 0)], none)] [(0, 20)] (by kernel_rfl) (by kernel_rfl) (by kernel_rfl) ?_
          refine ob_det (c := .agg #[.slice a0 L.secs.length p0, .slice a1 L.sigs.length p1, .slice a2 L.exits.length p2, .slice a3 L.flanks.length p3, .int .i64 L.t0, .int .i64 L.t1, .int .i64 L.t2, .int .i64 L.t3, .int .i64 L.t4, .int .i64 L.t5, .int .i64 L.t6]) ?_ ?_
          · intro ρ W hk hC
            simp only [seen, obOp]
            rintro h2
            replace h2 : ρ (.tmp 2) = .pointer (some ⟨w.heap.size, 0, none⟩) := h2.trans rfl
            exact rel_value (runLoad h2 (HBX.out.below hC)) hC
          refine ob_det (c := .agg #[.int .i64 xa, .int .i64 xb, .int .i64 xc]) ?_ ?_
          · intro ρ W hk hC
            simp only [seen, obOp]
            rintro h5
            replace h5 : ρ (.tmp 5) = .pointer (some ⟨b5, 0, none⟩) := h5.trans rfl
            exact rel_value (by simp [go_sem, h5, x0 W hC, x1 W hC, x2 W hC]) hC
          refine ob_det (c := .agg #[.int .i64 xa, .int .i64 xc]) ?_ ?_
          · intro ρ W hk hC
            simp only [seen, obOp, List.getD_cons_zero]
            rintro h15
            exact rel_call (f := 23) (args := #[.agg #[.int .i64 xa, .int .i64 xb, .int .i64 xc]]) (by simp [go_sem, h15, hk.func]) hC (rout_any xa xb xc W)
          refine ob_det (c := .agg #[.int .i64 zs, .int .i64 zp]) ?_ ?_
          · intro ρ W hk hC
            simp only [seen, obOp, List.getD_cons_zero, List.getD_cons_succ]
            rintro h14 h16
            exact rel_call (f := 34) (args := #[.agg #[.slice a0 L.secs.length p0, .slice a1 L.sigs.length p1, .slice a2 L.exits.length p2, .slice a3 L.flanks.length p3, .int .i64 L.t0, .int .i64 L.t1, .int .i64 L.t2, .int .i64 L.t3, .int .i64 L.t4, .int .i64 L.t5, .int .i64 L.t6], .agg #[.int .i64 xa, .int .i64 xc]]) (by simp [go_sem, h14, h16, hk.func]) hC (HY.out W hC)
          refine ob_det (c := .agg #[.int .i64 ya, .int .i64 yb, .int .i64 yc]) ?_ ?_
          · intro ρ W hk hC
            simp only [seen, obOp]
            rintro h6
            replace h6 : ρ (.tmp 6) = .pointer (some ⟨b6, 0, none⟩) := h6.trans rfl
            exact rel_value (by simp [go_sem, h6, y0 W hC, y1 W hC, y2 W hC]) hC
          refine ob_det (c := .agg #[.int .i64 ya, .int .i64 yb]) ?_ ?_
          · intro ρ W hk hC
            simp only [seen, obOp, List.getD_cons_zero]
            rintro h18
            exact rel_call (f := 22) (args := #[.agg #[.int .i64 ya, .int .i64 yb, .int .i64 yc]]) (by simp [go_sem, h18, hk.func]) hC (rin_any ya yb yc W)
          refine ob_det (c := .bool false) ?_ ?_
          · intro ρ W hk hC
            simp only [seen, obOp, List.getD_cons_zero, List.getD_cons_succ]
            rintro h17 h19
            exact rel_value (by simp [go_sem, h17, h19, hqE]) hC
          intro vs w5 hC5
          simp only [endSeen, List.getD_cons_zero]
          intro h20
          simp only [writeAll, List.setIfInBounds_toArray, List.set_cons_zero, List.set_cons_succ, h20]
          refine HK1.out _ _ ?_
          gi_wp2
          refine ⟨hC5, fun t ht => ?_⟩
          rcases List.mem_append.1 ht with ht | ht
          · exact HI.out t ht
          · rw [List.mem_singleton.1 ht]; exact HJB.out
    · have HJB := Lib.hid (show lnk L xs k = false by rw [hlk, decide_eq_false_iff_not]; intro h; cases h; exact hE ⟨rfl, rfl⟩)
      rw [decide_eq_false hE] at hqE
      clear hlk hE
      focus
          refine wpIn_region_rel_below (.inr ⟨l, rfl⟩) [([(2, none)], none), ([(5, none)], none), ([(15, some 0)], none), ([(14, some 2), (16, some 0)], none), ([(6, none)], none), ([(18, some 0)], none), ([(17, some 2), (19, some 0)], none)] [(0, 20)] (by kernel_rfl) (by kernel_rfl) (by kernel_rfl) ?_
          refine ob_det (c := .agg #[.slice a0 L.secs.length p0, .slice a1 L.sigs.length p1, .slice a2 L.exits.length p2, .slice a3 L.flanks.length p3, .int .i64 L.t0, .int .i64 L.t1, .int .i64 L.t2, .int .i64 L.t3, .int .i64 L.t4, .int .i64 L.t5, .int .i64 L.t6]) ?_ ?_
          · intro ρ W hk hC
            simp only [seen, obOp]
            rintro h2
            replace h2 : ρ (.tmp 2) = .pointer (some ⟨w.heap.size, 0, none⟩) := h2.trans rfl
            exact rel_value (runLoad h2 (HBX.out.below hC)) hC
          refine ob_det (c := .agg #[.int .i64 xa, .int .i64 xb, .int .i64 xc]) ?_ ?_
          · intro ρ W hk hC
            simp only [seen, obOp]
            rintro h5
            replace h5 : ρ (.tmp 5) = .pointer (some ⟨b5, 0, none⟩) := h5.trans rfl
            exact rel_value (by simp [go_sem, h5, x0 W hC, x1 W hC, x2 W hC]) hC
          refine ob_det (c := .agg #[.int .i64 xa, .int .i64 xc]) ?_ ?_
          · intro ρ W hk hC
            simp only [seen, obOp, List.getD_cons_zero]
            rintro h15
            exact rel_call (f := 23) (args := #[.agg #[.int .i64 xa, .int .i64 xb, .int .i64 xc]]) (by simp [go_sem, h15, hk.func]) hC (rout_any xa xb xc W)
          refine ob_det (c := .agg #[.int .i64 zs, .int .i64 zp]) ?_ ?_
          · intro ρ W hk hC
            simp only [seen, obOp, List.getD_cons_zero, List.getD_cons_succ]
            rintro h14 h16
            exact rel_call (f := 34) (args := #[.agg #[.slice a0 L.secs.length p0, .slice a1 L.sigs.length p1, .slice a2 L.exits.length p2, .slice a3 L.flanks.length p3, .int .i64 L.t0, .int .i64 L.t1, .int .i64 L.t2, .int .i64 L.t3, .int .i64 L.t4, .int .i64 L.t5, .int .i64 L.t6], .agg #[.int .i64 xa, .int .i64 xc]]) (by simp [go_sem, h14, h16, hk.func]) hC (HY.out W hC)
          refine ob_det (c := .agg #[.int .i64 ya, .int .i64 yb, .int .i64 yc]) ?_ ?_
          · intro ρ W hk hC
            simp only [seen, obOp]
            rintro h6
            replace h6 : ρ (.tmp 6) = .pointer (some ⟨b6, 0, none⟩) := h6.trans rfl
            exact rel_value (by simp [go_sem, h6, y0 W hC, y1 W hC, y2 W hC]) hC
          refine ob_det (c := .agg #[.int .i64 ya, .int .i64 yb]) ?_ ?_
          · intro ρ W hk hC
            simp only [seen, obOp, List.getD_cons_zero]
            rintro h18
            exact rel_call (f := 22) (args := #[.agg #[.int .i64 ya, .int .i64 yb, .int .i64 yc]]) (by simp [go_sem, h18, hk.func]) hC (rin_any ya yb yc W)
          refine ob_det (c := .bool true) ?_ ?_
          · intro ρ W hk hC
            simp only [seen, obOp, List.getD_cons_zero, List.getD_cons_succ]
            rintro h17 h19
            exact rel_value (by simp [go_sem, h17, h19, hqE]) hC
          intro vs w5 hC5
          simp only [endSeen, List.getD_cons_zero]
          intro h20
          simp only [writeAll, List.setIfInBounds_toArray, List.set_cons_zero, List.set_cons_succ, h20]
          have eT5 := (hC5.cell (p := ⟨w.heap.size + 1, 0, none⟩) HTW.out.2.2).trans HTW.out.1
          have fT5 := (hC5.frozen (p := ⟨w.heap.size + 1, 0, none⟩) HTW.out.2.2).trans HTW.out.2.1
          refine HK1.out _ _ ?_
          gi_wp2
          exact ⟨(Writes.of_below (A := fun g => g = w.heap.size + 1) hC5).setCell (A := fun g => g = w.heap.size + 1) (p := ⟨w.heap.size + 1, 0, none⟩) rfl _, rfl, ⟨k, by simp, HJB.out⟩, by simp [go_sem, eT5]⟩
  case done =>
    rintro D ys W hD rfl hw hi hK
    obtain rfl : r = true := HR.out.2.2 (by first | exact rfl | trivial) hi
    have hwW := bchain HV.out.1 hw
    have eT := (hw.cell (p := ⟨w.heap.size + 1, 0, none⟩) ltV).trans HV.out.2.2.1
    have fT := (hw.frozen (p := ⟨w.heap.size + 1, 0, none⟩) ltV).trans HV.out.2.2.2.1
    have ltW := Nat.lt_of_lt_of_le ltV hw.size
    have hmD := (Marked.nil w.heap.size W).cons (Nat.le_trans lwV hD) (fun D' h' => by cases h') hK
    have hne : D ≠ w.heap.size + 1 := fun e => by
      have hgt : w.heap.size + 1 < D := Nat.lt_of_lt_of_le ltV hD
      omega
    have HDN := Lib.hid (⟨hmD, hwW⟩ : _ ∧ _)
    clear hmD hw hi hK
    dsimp only
    go_wp2_with fail
    have hwr : Writes (fun g => g = w.heap.size + 1) W (W.setCell ⟨w.heap.size + 1, 0, none⟩ (.bool true)) := (Writes.refl (fun g => g = w.heap.size + 1) _).setCell (A := fun g => g = w.heap.size + 1) (p := ⟨w.heap.size + 1, 0, none⟩) rfl _
    have hbw : Below w.heap.size w (W.setCell ⟨w.heap.size + 1, 0, none⟩ (.bool true)) := hwr.below HDN.out.2 HDN.out.2.size (by rintro g rfl; omega)
    refine ⟨⟨_, HDN.out.1.writes hwr (by rintro g rfl; exact ⟨_, _, eT⟩)⟩, fun w' hb hk => ⟨.bool true, ?_, rfl, hbw.trans hb⟩⟩
    have e1 := cells_kept hk (b := w.heap.size + 1) (o := 0) (v := .bool true) (by simp [go_sem, eT])
    simp [results, Tryz.results10, go_sem, e1]
  case stop =>
    rintro D cd pre W hD hS hw ⟨rfl, ⟨k, hk, hf⟩, eT⟩ hK
    obtain rfl : r = false := HR.out.2.1 k (hS.subset hk) hf
    have hmD := (Marked.nil w.heap.size W).cons (Nat.le_trans lwV hD) (fun D' h' => by cases h') hK
    have hbw : Below w.heap.size w W := hw.below HV.out.1 lwV (by rintro g rfl; omega)
    dsimp only
    go_wp2_with fail
    refine ⟨⟨_, hmD⟩, fun w' hb hk => ⟨.bool false, ?_, rfl, hbw.trans hb⟩⟩
    have e1 := cells_kept hk (b := w.heap.size + 1) (o := 0) (v := .bool false) (by simp [go_sem, eT])
    simp [results, Tryz.results10, go_sem, e1]
end Go.Proofs.YtpcojaoeahdgcaaGreatDoor

/-
  slices.IndexFunc, slices.ContainsFunc at integers, whatever the predicate.
-/
namespace Go.Proofs.YtpcojaoeahdgcaaGreatDoor
open Go.RowKit Go.Shelf

/-- A predicate of integers: it may lay blocks of its own, and leaves all else as it was. -/
def PBI (g : Nat) (lb : Array Value) (p : Int → Bool) (xs : List Int) (w : World) : Prop :=
  ∀ (W : World) (x : Int), x ∈ xs → Below w.heap.size w W → Calls Tryz.prog g (#[.int .i64 x] ++ lb) W fun e w' => e = .returned (.bool (p x)) ∧ Below W.heap.size W w'

set_option maxRecDepth 100000 in
set_option maxHeartbeats 2000000 in
theorem indexInt_any (g : Nat) (lb : Array Value) (eg : ∀ args w, (callFunc g args).run Tryz.prog w = .ok (.enter g args) w) (p : Int → Bool) (A : Option Addr) (cap : Nat) (xs : List Int) (w : World) (hA : At w 1 intEnc A xs) (hl : xs.length ≤ cap) (hm : cap ≤ 9223372036854775807)
    (hp : PBI g lb p xs w) :
    Calls Tryz.prog 41 #[.slice A xs.length cap, .func (.func g) #[] lb] w fun e w' => e = .returned (.int .i64 (idxOf' p xs)) ∧ Below w.heap.size w w' := by
  have HX := Lib.hid (⟨fun n x => idx_hit (p := p) (xs := xs) (n := n) (x := x), idx_miss (p := p) (xs := xs)⟩ : _ ∧ _)
  generalize idxOf' p xs = r at HX
  obtain ⟨len, hlen⟩ : ∃ len, len = xs.length := ⟨_, rfl⟩
  have HLN := Lib.hid hlen
  have HA := Lib.hid hA
  have HP := Lib.hid hp
  rw [← hlen] at hl ⊢
  clear hA hp hlen
  go_enter Tryz.func41, Tryz.ntmps41
  go_wp2
  go_loopg [5, 8] len (fun gg _ s8 wr => ∃ n : Nat, n ≤ len ∧ len - n ≤ gg ∧ s8 = .int .i64 n ∧ Hid (Below w.heap.size w wr) ∧ Hid (∀ j, j < n → ∀ y, xs[j]? = some y → p y = false))
  case atStart => exact ⟨0, Nat.zero_le _, by omega, rfl, Lib.hid (Below.refl _ w), Lib.hid (fun j hj => absurd hj (Nat.not_lt_zero _))⟩
  case round =>
    obtain ⟨n, hn, hg, rfl, HB, HJ⟩ := hrel
    by_cases hlt : n < len
    · obtain ⟨b, off, hAe, h0, hrow⟩ := HA.out.get (by rw [← HLN.out]; exact hlt)
      subst hAe
      obtain ⟨x, hx⟩ : ∃ x, xs[n]? = some x := ⟨xs[n]'(by rw [← HLN.out]; exact hlt), List.getElem?_eq_getElem _⟩
      have hcall := HP.out wr x (List.mem_of_getElem? hx) HB.out
      have c0 := (HB.out.cell (p := ⟨b, off + n, none⟩) h0).trans (by simpa using hrow n x hx 0 _ rfl)
      have lb' : b < wr.heap.size := Nat.lt_of_lt_of_le h0 HB.out.size
      obtain ⟨y, hy⟩ : ∃ y, y = p x := ⟨_, rfl⟩
      rw [← hy] at hcall
      have HXX := Lib.hid (⟨hx, hy⟩ : _ ∧ _)
      have HC := Lib.hid hcall
      clear hrow hx hy hcall HA
      go_wp2_with fail
      refine (HC.out).mono ?_
      rintro e w1 ⟨rfl, b1⟩
      have HB1 := Lib.hid (bchain HB.out b1)
      clear b1 HB
      cases y with
      | true =>
        go_wp2
        go_ret
        obtain rfl := HX.out.1 n x HXX.out.1 HXX.out.2.symm HJ.out
        exact ⟨rfl, HB1.out⟩
      | false =>
        go_wp2
        go_roundg (len - (n + 1))
        case measure => omega
        case rel =>
          refine ⟨n + 1, by omega, by omega, by go_num, HB1, Lib.hid (fun j hj z hz => ?_)⟩
          by_cases e : j = n
          · subst e
            rw [HXX.out.1] at hz
            cases hz
            exact HXX.out.2.symm
          · exact HJ.out j (by omega) z hz
    · obtain rfl : n = len := by omega
      go_wp2
      go_ret
      obtain rfl := HX.out.2 (fun j hj => HJ.out j (by rw [HLN.out]; exact hj))
      exact ⟨rfl, HB.out⟩

theorem containsInt_any (g : Nat) (lb : Array Value) (eg : ∀ args w, (callFunc g args).run Tryz.prog w = .ok (.enter g args) w) (p : Int → Bool) (A : Option Addr) (cap : Nat) (xs : List Int) (w : World) (hA : At w 1 intEnc A xs) (hl : xs.length ≤ cap) (hm : cap ≤ 9223372036854775807)
    (hp : PBI g lb p xs w) :
    Calls Tryz.prog 20 #[.slice A xs.length cap, .func (.func g) #[] lb] w fun e w' => e = .returned (.bool (xs.any p)) ∧ Below w.heap.size w w' := by
  have hc := indexInt_any g lb eg p A cap xs w hA hl hm hp
  rw [← idx_any]
  generalize idxOf' p xs = r at hc ⊢
  have HC := Lib.hid hc
  clear hc hA hl hm hp
  go_enter Tryz.func20, Tryz.ntmps20
  go_wp2_with fail
  refine HC.out.mono ?_
  rintro e w1 ⟨rfl, b1⟩
  go_wp2
  go_ret
  exact ⟨rfl, b1⟩
end Go.Proofs.YtpcojaoeahdgcaaGreatDoor

/-
  route.twice, its closure, route.Check's closure, route.Own.
-/
namespace Go.Proofs.YtpcojaoeahdgcaaGreatDoor
open Go.RowKit Go.Shelf
attribute [local go_sem] Oper.semAt_some

set_option maxHeartbeats 1000000 in
theorem twice1_any (s i o z : Int) (g : Nat) (w : World) (l : g < w.heap.size) (c0 : w.cell? ⟨g, 0, none⟩ = some (.int .i64 z)) :
    Calls Tryz.prog 42 #[.agg #[.int .i64 s, .int .i64 i, .int .i64 o], .pointer (some ⟨g, 0, none⟩)] w fun e w' => e = .returned (.bool (decide (s = z))) ∧ Below w.heap.size w w' := by
  go_enter Tryz.func42, Tryz.ntmps42
  go_wp2
  go_ret
  exact ⟨by first | rfl | (apply ret_bool; rw [Bool.eq_iff_iff]; simp), bself⟩

set_option maxRecDepth 100000 in
set_option maxHeartbeats 8000000 in
theorem twiceR_any (A : Option Addr) (cap : Nat) (xs : List Stp) (w : World) (hA : At w 3 Stp.enc A xs) (hl : xs.length ≤ cap) (hm : cap ≤ 9223372036854775807) :
    Calls Tryz.prog 24 #[.slice A xs.length cap] w fun e w' => e = .returned (.bool (twiceL xs)) ∧ Below w.heap.size w w' := by
  obtain ⟨r, hr⟩ : ∃ r, r = twiceL xs := ⟨_, rfl⟩
  rw [← hr]
  have HR := Lib.hid (⟨fun k x j y hx hy hj h => hr.trans (twice_yes (k := k) (x := x) (j := j) (y := y) hx hy hj h), fun h => hr.trans (twice_no h)⟩ : _ ∧ _)
  obtain ⟨len, hlen⟩ : ∃ len, len = xs.length := ⟨_, rfl⟩
  rw [← hlen] at hl ⊢
  have HA := Lib.hid hA
  have HLN := Lib.hid hlen
  clear hr hA hlen
  go_enter Tryz.func24, Tryz.ntmps24
  go_wp2_with fail
  go_loopw [7] (fun c wr => ∃ k : Nat, k ≤ len ∧ c = .int .i64 k ∧ Hid (Below w.heap.size w wr) ∧ Hid (∀ m x, m < k → xs[m]? = some x → ∀ j y, j < m → xs[j]? = some y → y.s ≠ x.s)) (fun c _ => len - (intOf c).toNat)
  case atStart => exact ⟨0, Nat.zero_le _, rfl, Lib.hid (Below.refl _ _), Lib.hid (fun m x hm => absurd hm (Nat.not_lt_zero _))⟩
  case round =>
    obtain ⟨k, hk, rfl, HB, HJ⟩ := hrel
    by_cases hlt : k < len
    · obtain ⟨b, off, hAe, hrow⟩ := HA.out.get (j := k) (by rw [← HLN.out]; exact hlt)
      subst hAe
      obtain ⟨y, hy⟩ : ∃ y, xs[k]? = some y := ⟨_, List.getElem?_eq_getElem (by rw [← HLN.out]; exact hlt)⟩
      have HY := Lib.hid hy
      obtain ⟨ys, yi, yo⟩ := y
      have lb := hrow.1
      have k0 : wr.cell? ⟨b, off + k * 3, none⟩ = some (.int .i64 ys) := (HB.out.cell (p := ⟨b, off + k * 3, none⟩) lb).trans (hrow.2 k _ hy 0 _ rfl)
      have k1 : wr.cell? ⟨b, off + k * 3 + 1, none⟩ = some (.int .i64 yi) := (HB.out.cell (p := ⟨b, off + k * 3 + 1, none⟩) lb).trans (hrow.2 k _ hy 1 _ rfl)
      have k2 : wr.cell? ⟨b, off + k * 3 + 2, none⟩ = some (.int .i64 yo) := (HB.out.cell (p := ⟨b, off + k * 3 + 2, none⟩) lb).trans (hrow.2 k _ hy 2 _ rfl)
      have lb2 : b < wr.heap.size := Nat.lt_of_lt_of_le lb HB.out.size
      have hkc : k ≤ cap := by omega
      have hct := containsStep_any 42 #[.pointer (some ⟨wr.heap.size, 0, none⟩)] (enters_of Tryz.func42 (by kernel_rfl) rfl) (fun x : Stp => decide (x.s = ys)) (some ⟨b, off, none⟩) cap (xs.take k) (wr.alloc (.cells #[.int .i64 ys, .int .i64 yi, .int .i64 yo] 47))
        ((HA.out.below (bchain HB.out bself)).take k) (Nat.le_trans (List.length_take_le ..) hkc) hm
        (fun W x _ hb => twice1_any x.s x.i x.o ys wr.heap.size W (Nat.lt_of_lt_of_le (by simp) hb.size) ((hb.cell (p := ⟨wr.heap.size, 0, none⟩) (by simp)).trans (by simp [go_sem])))
      rw [List.length_take_of_le (by rw [← HLN.out]; omega)] at hct
      obtain ⟨q, hq⟩ : ∃ q, q = (xs.take k).any fun x : Stp => decide (x.s = ys) := ⟨_, rfl⟩
      rw [← hq] at hct
      have HQ := Lib.hid hq
      have HC := Lib.hid hct
      clear hq hct hy hrow
      go_wp2_with fail
      (with_reducible refine HC.out.mono ?_)
      rintro e w1 ⟨rfl, b1⟩
      have HB1 := Lib.hid (bchain HB.out (bnew b1))
      clear b1 HC k0 k1 k2
      cases q with
      | true =>
        obtain ⟨x, hx, he⟩ := List.any_eq_true.1 HQ.out.symm
        obtain ⟨j, hj, hxj⟩ := List.mem_iff_getElem.1 hx
        have hjk : j < k := by rw [List.length_take] at hj; omega
        have hx2 : xs[j]? = some x := by
          rw [List.getElem_take] at hxj
          rw [← hxj]
          exact List.getElem?_eq_getElem _
        obtain rfl : r = true := HR.out.1 k _ j x HY.out hx2 hjk (of_decide_eq_true he)
        clear hx he hj hxj hx2
        go_wp2
        go_ret
        exact ⟨rfl, HB1.out⟩
      | false =>
        go_wp2
        go_roundw
        case rel =>
          refine ⟨k + 1, by omega, by go_num, HB1, Lib.hid (fun m x hm hx j y hj hy => ?_)⟩
          by_cases e : m = k
          · subst e
            have := HQ.out.symm
            rw [List.any_eq_false] at this
            have h2 := this y (List.mem_of_getElem? (i := j) (by rw [List.getElem?_take_of_lt hj]; exact hy))
            rw [HY.out] at hx
            cases hx
            simpa using h2
          · exact HJ.out m x (by omega) hx j y hj hy
        case measure => simp [intOf]; omega
    · obtain rfl : k = len := by omega
      obtain rfl : r = false := HR.out.2 (fun m x hx j y hj hy => HJ.out m x (by rw [HLN.out]; exact (List.getElem?_eq_some_iff.1 hx).1) hx j y hj hy)
      go_wp2
      go_ret
      exact ⟨rfl, HB.out⟩

/-- Is a via none of a layout's sections? -/
def viaBad (L : Lay) (v : Int) : Bool := decide (v < 0) || decide ((L.secs.length : Int) ≤ v)
set_option maxHeartbeats 1000000 in
theorem check1_any (L : Lay) (P : Where) (g : Nat) (v : Int) (w : World) (hB : BoxL w g L P) :
    Calls Tryz.prog 21 #[.int .i64 v, .pointer (some ⟨g, 0, none⟩)] w fun e w' => e = .returned (.bool (viaBad L v)) ∧ Below w.heap.size w w' := by
  have c0 := hB.cells.1
  have lg := hB.1
  obtain ⟨a0, a1, a2, a3, p0, p1, p2, p3⟩ := P
  dsimp only at c0
  unfold viaBad
  by_cases h0 : v < 0
  · have d0 : decide (v < 0) = true := decide_eq_true h0
    go_enter Tryz.func21, Tryz.ntmps21
    go_wp2
    go_ret
    exact ⟨ret_bool (by simp [d0]), Below.refl _ _⟩
  · have d0 : decide (v < 0) = false := decide_eq_false h0
    by_cases h1 : (L.secs.length : Int) ≤ v
    · have d1 : decide ((L.secs.length : Int) ≤ v) = true := decide_eq_true h1
      go_enter Tryz.func21, Tryz.ntmps21
      go_wp2
      go_ret
      exact ⟨ret_bool (by simp), Below.refl _ _⟩
    · have d1 : decide ((L.secs.length : Int) ≤ v) = false := decide_eq_false h1
      go_enter Tryz.func21, Tryz.ntmps21
      go_wp2
      go_ret
      exact ⟨ret_bool (by simp), Below.refl _ _⟩

/-- A row of one's own holds what it holds wherever its blocks are as they were. -/
theorem sl_of_own {α : Type} {enc : α → List Value} {k : Nat} (hk : ∀ x, (enc x).length = k) (h0 : 0 < k) {W W' : World} {B e : Nat} {v : Value} {xs : List α} (h : W.ownsRow B e k v xs.length (xs.flatMap enc)) (hh : ∀ b, B ≤ b → W'.heap[b]? = W.heap[b]?) : Sl W' k enc v xs := by
  refine at_of_row hk h0 (B := B) (e := e) ⟨h.1, ?_⟩
  rcases h.2 with hn | ⟨g, cap, cur, e1, hb, hg, r⟩
  · exact .inl hn
  · exact .inr ⟨g, cap, cur, e1, hb, (hh g hb).trans hg, r⟩
set_option maxRecDepth 100000 in
set_option maxHeartbeats 4000000 in
theorem ownR_any (sg ex : Int) (A : Option Addr) (cap : Nat) (xs : List Stp) (w : World) (hA : At w 3 Stp.enc A xs) (hl : xs.length ≤ 1000) :
    Calls Tryz.prog 15 #[.agg #[.int .i64 sg, .int .i64 ex, .slice A xs.length cap]] w fun e w' => ∃ v, e = .returned (.agg #[.int .i64 sg, .int .i64 ex, v]) ∧ Sl w' 3 Stp.enc v xs ∧ Below w.heap.size w w' := by
  obtain ⟨X, hX⟩ : ∃ X, X = (w.alloc (.cells #[.int .i64 sg, .int .i64 ex, .slice A xs.length cap] 32)).alloc (.cells #[.int .i64 0, .int .i64 0, .slice none 0 0] 32) := ⟨_, rfl⟩
  have hBX : Below w.heap.size w X := by rw [hX]; exact bchain bself bself
  have hq := cloneStep_any A cap xs X (hA.below hBX) hl
  have x0 : X.cell? ⟨w.heap.size, 0, none⟩ = some (.int .i64 sg) := by rw [hX]; simp [go_sem]
  have x1 : X.cell? ⟨w.heap.size, 1, none⟩ = some (.int .i64 ex) := by rw [hX]; simp [go_sem]
  have x2 : X.cell? ⟨w.heap.size, 2, none⟩ = some (.slice A xs.length cap) := by rw [hX]; simp [go_sem]
  have y0 : X.cell? ⟨w.heap.size + 1, 0, none⟩ = some (.int .i64 0) := by rw [hX]; simp [go_sem]
  have y1 : X.cell? ⟨w.heap.size + 1, 1, none⟩ = some (.int .i64 0) := by rw [hX]; simp [go_sem]
  have y2 : X.cell? ⟨w.heap.size + 1, 2, none⟩ = some (.slice none 0 0) := by rw [hX]; simp [go_sem]
  have xf : ∀ o, X.frozen? ⟨w.heap.size, o, none⟩ = false := fun o => by rw [hX]; simp [go_sem]
  have yf : ∀ o, X.frozen? ⟨w.heap.size + 1, o, none⟩ = false := fun o => by rw [hX]; simp [go_sem]
  have hsz : X.heap.size = w.heap.size + 2 := by rw [hX]; simp
  have HX := Lib.hid hX
  have HQ := Lib.hid hq
  have HBX := Lib.hid hBX
  clear hX hq hA hl hBX
  go_enter Tryz.func15, Tryz.ntmps15
  go_wp2_with fail
  rw [← HX.out]
  refine HQ.out.mono ?_
  rintro e w1 ⟨v, rfl, hown, b1⟩
  obtain ⟨c, f, l⟩ := bcell b1
  have l0 := l w.heap.size (by omega)
  have l1 := l (w.heap.size + 1) (by omega)
  have z0 := (c w.heap.size 0 (by omega)).trans x0
  have z1 := (c w.heap.size 1 (by omega)).trans x1
  have z2 := (c w.heap.size 2 (by omega)).trans x2
  have u0 := (c (w.heap.size + 1) 0 (by omega)).trans y0
  have u1 := (c (w.heap.size + 1) 1 (by omega)).trans y1
  have u2 := (c (w.heap.size + 1) 2 (by omega)).trans y2
  have g0 := (f w.heap.size 0 (by omega)).trans (xf 0)
  have g1 := (f w.heap.size 1 (by omega)).trans (xf 1)
  have g2 := (f w.heap.size 2 (by omega)).trans (xf 2)
  have h0 := (f (w.heap.size + 1) 0 (by omega)).trans (yf 0)
  have h1 := (f (w.heap.size + 1) 1 (by omega)).trans (yf 1)
  have h2 := (f (w.heap.size + 1) 2 (by omega)).trans (yf 2)
  have hsl := fun (W' : World) (h : ∀ b, X.heap.size ≤ b → W'.heap[b]? = w1.heap[b]?) => sl_of_own (enc := Stp.enc) (k := 3) (fun _ => rfl) (by decide) hown h
  obtain ⟨A2, cap2, rfl, hl2, hm2, hA2⟩ := at_of_row (enc := Stp.enc) (k := 3) (fun _ => rfl) (by decide) hown
  have HO := Lib.hid (⟨hsl, bchain HBX.out b1⟩ : _ ∧ _)
  clear hown b1 hl2 hm2 hA2 hsl x0 x1 x2 y0 y1 y2 xf yf c f l
  go_wp2
  refine bodyPost_ret (v := .agg #[.int .i64 sg, .int .i64 ex, .slice A2 xs.length cap2]) (by simp [results, Tryz.results15, go_sem, u0, u1, u2]) rfl ⟨_, rfl, HO.out.1 _ fun b hb => ?_, ?_⟩
  · repeat rw [Below.heap_setCell _ _ _ _ (by dsimp only; omega)]
  · repeat refine Below.setCell ?_ (by dsimp only; omega) _
    exact HO.out.2
end Go.Proofs.YtpcojaoeahdgcaaGreatDoor

/-
  slices.Grow of the nil slice, slices.Concat of two slices of steps.
-/
namespace Go.Proofs.YtpcojaoeahdgcaaGreatDoor
open Go.RowKit Go.Shelf

theorem run_append_none {P : Program} (w : World) (t ty e : TypeId) (i : TypeInfo) (ht : P.underlying t = some (.slice e)) (hi : P.info? e = some i) (base : Option Addr) (n cap c : Nat) (hn : n ≤ cap) :
    (Builtin.append_ #[t, t] ty #[.slice base n cap, .slice none 0 c]).run P w = .ok (.slice base n cap) w := by
  cases base <;> simp [Builtin.append_, run_underlying ht, sizeOf, typeInfo, hi, Builtin.lenOf, hn, Builtin.firstCells, loadCells, storeCells]
/-- append onto a row of one's own, whatever is appended: the nil slice too. -/
theorem wpList_append_at {P : Program} {w : World} {α : Type} {enc : α → List Value} {ops : Array Oper} {rest : List Oper} {o : Oper} {a : Act} {Q : Exit → Act → World → Prop} (hgd : o.guard = none) (s x : Operand) (t : TypeId)
    (ho : o.op = .call { callee := .builtin .append, args := #[s, x], argTypes := #[t, t] })
    (base : Nat) (e : TypeId) (i : TypeInfo) (z : Value) (size bytes : Nat) (ht : P.underlying t = some (.slice e)) (hi : P.info? e = some i) (hz : i.zero = some z)
    (hsize : i.size = size) (hby : i.bytes = bytes) (hzs : z.cells.size = size) (hsz : 0 < size)
    (v : Value) (n : Nat) (xs : List Value) (hs : a.eval s = v) (hown : w.ownsRow base e size v n xs)
    (A : Option Addr) (m c : Nat) (ys : List α) (hm : m = ys.length) (hx : a.eval x = .slice A m c) (hA : At w size enc A ys) (hk : ∀ x, (enc x).length = size) (h1 : ∀ u ∈ ys.flatMap enc, u.oneCell' = true)
    (h63 : n + m ≤ maxLen) (hbytes : (n + m) * bytes ≤ 140737488355328) (hbase : base ≤ w.heap.size)
    (h : ∀ v' w', w'.ownsRow base e size v' (n + m) (xs ++ ys.flatMap enc) → w.grownBy w' v.ownBlock → wpList P ops Q rest (a.put o.dst v') w') : wpList P ops Q (o :: rest) a w := by
  subst hm
  cases A with
  | none =>
    obtain rfl : ys = [] := by
      rcases hA with h | ⟨b, off, h, _⟩
      · exact h
      · cases h
    have hr : (Builtin.append_ #[t, t] o.type #[v, .slice none 0 c]).run P w = .ok v w := by
      rcases hown.2 with ⟨rfl, _⟩ | ⟨g, cap, cur, rfl, _, _, hn, _⟩
      · exact run_append_none w t _ e i ht hi none 0 0 c (Nat.le_refl _)
      · exact run_append_none w t _ e i ht hi _ n cap c hn
    exact Lib.wpList_append_run w hgd s x t t ho v _ hs hx v w hr (h v w (by simpa using hown) ⟨rfl, rfl, rfl, Nat.le_refl _, fun _ _ _ => rfl⟩)
  | some ad =>
    refine wpList_append_own w hgd s x t ho base e i z size bytes ht hi hz hsize hby hzs hsz v n xs hs hown ad ys.length c (ys.flatMap enc) hx (flat_len hk ys) (fun j u hu => ?_) h1 h63 hbytes hbase (fun v' w' h2 h3 _ => h v' w' h2 h3)
    rcases hA with h | ⟨b, off, h, hrow⟩
    · rw [h] at hu
      simp at hu
    · cases h
      exact flat_cells hk hsz hrow j u hu

theorem stp_one {xs : List Stp} : ∀ u ∈ xs.flatMap Stp.enc, u.oneCell' = true := by
  intro u hu
  obtain ⟨x, hx, hu⟩ := List.mem_flatMap.1 hu
  simp only [Stp.enc, List.mem_cons, List.not_mem_nil, or_false] at hu
  rcases hu with rfl | rfl | rfl <;> rfl

set_option maxHeartbeats 4000000 in
set_option maxRecDepth 100000 in
theorem growNil_any (n : Nat) (w : World) (hn : n ≤ 4000) :
    Calls Tryz.prog 43 #[.slice none 0 0, .int .i64 n] w fun e w' => ∃ v, e = .returned v ∧ Below w.heap.size w w' ∧ w'.ownsRow w.heap.size 47 3 v 0 [] := by
  obtain ⟨i0, z0, hi, hz, hs1, hs2, hs3⟩ := info_Step
  have h1 : ¬ ((n : Int) < 0) := by omega
  have h3 : wrap64 ((n : Int) - 0) = (n : Int) := by unfold wrap64; omega
  have h3' : wrap64 (n : Int) = (n : Int) := by unfold wrap64; omega
  by_cases h0 : n = 0
  · subst h0
    clear hi hz hs1 hs2 hs3
    go_enter Tryz.func43, Tryz.ntmps43
    go_wp2
    go_ret
    exact ⟨_, rfl, Below.refl _ _, World.ownsRow_nil _ _ _ _⟩
  · have h4 : (n : Int) > 0 := by omega
    have hb : n * i0.bytes ≤ 4000 * 100 := Nat.mul_le_mul hn hs3
    have hrz := fun ty => Lib.run_append_nil_zeros w 30 3 ty 47 i0 z0 .i64 .i64 Tryz.underlying30 Tryz.underlying3 hi hz n (by omega) (by omega) (by omega) (by omega)
    have hGn : n ≤ grownCap w n 0 47 := grownCap_ge w _ _ _
    have hG63 : grownCap w n 0 47 ≤ maxLen := grownCap_le_maxLen w n 0 _ (by unfold maxLen; omega)
    have hzc : ∀ m, (Builtin.zeroCells z0.cells m).size = m * 3 := fun m => by rw [size_zeroCells, hs2]
    generalize grownCap w n 0 47 = G at hrz hGn hG63
    generalize z0.cells = zc at hrz hzc
    have HG := Lib.hid (⟨hG63, hzc⟩ : _ ∧ _)
    have hG' : G ≤ 9223372036854775807 := hG63
    clear hi hz hs1 hs2 hs3 hb hG63 hzc
    go_enter Tryz.func43, Tryz.ntmps43
    go_wp2_with (at_builtin; refine Lib.wpList_append_run _ rfl _ _ _ _ rfl _ _ rfl rfl _ _ (hrz _) ?_)
    go_ret
    refine ⟨_, rfl, bself.drew, by simp, .inr ⟨w.heap.size, G, _, rfl, Nat.le_refl _, World.alloc_heap_new _ _, Nat.zero_le _, HG.out.1, ?_, by simp⟩⟩
    rw [Array.size_append, HG.out.2, HG.out.2, ← Nat.add_mul]
    congr 1
    omega

end Go.Proofs.YtpcojaoeahdgcaaGreatDoor

/-
  slices.Concat of two slices of steps.
-/
namespace Go.Proofs.YtpcojaoeahdgcaaGreatDoor
open Go.RowKit Go.Shelf

theorem cat_facts (n m : Nat) (hx : n ≤ 1000) (hy : m ≤ 1000) : wrap64 (0 + (n : Int)) = (n : Int) ∧ wrap64 (n : Int) = (n : Int) ∧ wrap64 ((n : Int) + (m : Int)) = (n : Int) + (m : Int) ∧ decide ((n : Int) < 0) = false ∧ decide ((n : Int) + (m : Int) < 0) = false := by
  refine ⟨by unfold wrap64; omega, by unfold wrap64; omega, by unfold wrap64; omega, decide_eq_false (by omega), decide_eq_false (by omega)⟩
set_option maxHeartbeats 2000000 in
set_option maxRecDepth 100000 in
/-- Two slices of steps, one behind the other. -/
theorem concat_any (g : Nat) (A B : Option Addr) (ca cb : Nat) (xs ys : List Stp) (w : World) (hA : At w 3 Stp.enc A xs) (hB : At w 3 Stp.enc B ys) (hx : xs.length ≤ 1000) (hy : ys.length ≤ 1000) (lg : g < w.heap.size)
    (c0 : w.cell? ⟨g, 0, none⟩ = some (.slice A xs.length ca)) (c1 : w.cell? ⟨g, 1, none⟩ = some (.slice B ys.length cb)) :
    Calls Tryz.prog 25 #[.slice (some ⟨g, 0, none⟩) 2 2] w fun e w' => ∃ v, e = .returned v ∧ Below w.heap.size w w' ∧ Sl w' 3 Stp.enc v (xs ++ ys) := by
  obtain ⟨i0, z0, hi, hz, hs1, hs2, hs3⟩ := info_Step
  obtain ⟨n, hn⟩ : ∃ n, n = xs.length := ⟨_, rfl⟩
  obtain ⟨m, hm⟩ : ∃ m, m = ys.length := ⟨_, rfl⟩
  rw [← hn] at c0 hx
  rw [← hm] at c1 hy
  have HI := Lib.hid (⟨hi, hz, hs1, hs2, hs3⟩ : _ ∧ _ ∧ _ ∧ _ ∧ _)
  have HAB := Lib.hid (⟨hA, hB⟩ : _ ∧ _)
  have HN := Lib.hid (⟨hn, hm⟩ : _ ∧ _)
  have hgr := fun W => growNil_any (n + m) W (by omega)
  have f0 := (cat_facts n m hx hy).1
  have f1 := (cat_facts n m hx hy).2.1
  have f2 := (cat_facts n m hx hy).2.2.1
  have f3 := (cat_facts n m hx hy).2.2.2.1
  have f4 := (cat_facts n m hx hy).2.2.2.2
  have HGR := Lib.hid hgr
  clear hi hz hs1 hs2 hs3 hA hB hn hm hgr
  go_enter Tryz.func25, Tryz.ntmps25
  go_wp2_with fail
  go_loopw [3, 11] (fun s c wr => ∃ (i t : Nat), ((i = 0 ∧ t = 0) ∨ (i = 1 ∧ t = n) ∨ (i = 2 ∧ t = n + m)) ∧ s = .int .i64 t ∧ c = .int .i64 i ∧ wr = w) (fun _ c _ => 2 - (intOf c).toNat)
  case atStart => exact ⟨0, 0, .inl ⟨rfl, rfl⟩, rfl, rfl, rfl⟩
  case round =>
    obtain ⟨i, t, ht, rfl, rfl, rfl⟩ := hrel
    obtain ⟨hz, hz2⟩ | ⟨hz, hz2⟩ | ⟨hz, hz2⟩ := ht
    · rw [hz, hz2]
      clear hz hz2 t i
      go_wp2
      exact ⟨⟨1, n, .inr (.inl ⟨rfl, rfl⟩), rfl, rfl, trivial⟩, by simp [intOf]⟩
    · rw [hz, hz2]
      clear hz hz2 t i
      go_wp2
      exact ⟨⟨2, n + m, .inr (.inr ⟨rfl, rfl⟩), by simp, rfl, trivial⟩, by simp [intOf]⟩
    · rw [hz, hz2]
      clear hz hz2 t i
      go_wp2_with fail
      obtain ⟨ww, hww⟩ : ∃ ww, ww = wr := ⟨_, rfl⟩
      subst hww
      have hg2 := HGR.out ww
      rw [Int.natCast_add] at hg2
      (with_reducible refine hg2.mono ?_)
      rintro e wg ⟨v, rfl, bg, hown⟩
      have HG := Lib.hid (⟨bg, hown⟩ : _ ∧ _)
      clear hg2 bg hown f0 f1 f2 f3 f4
      go_wp2_with fail
      go_loopw [6, 27] (fun s c wv => ∃ (i : Nat) (v' : Value), s = v' ∧ c = .int .i64 i ∧ Hid (Below ww.heap.size ww wv ∧ ((i = 0 ∧ wv.ownsRow ww.heap.size 47 3 v' 0 []) ∨ (i = 1 ∧ wv.ownsRow ww.heap.size 47 3 v' n (xs.flatMap Stp.enc)) ∨ (i = 2 ∧ wv.ownsRow ww.heap.size 47 3 v' (n + m) ((xs ++ ys).flatMap Stp.enc))))) (fun _ c _ => 2 - (intOf c).toNat)
      case atStart => exact ⟨0, _, rfl, rfl, Lib.hid ⟨HG.out.1, .inl ⟨rfl, HG.out.2⟩⟩⟩
      case round =>
        obtain ⟨i, v', rfl, rfl, HR⟩ := hrel
        have c0' := (HR.out.1.cell (p := ⟨g, 0, none⟩) lg).trans c0
        have c1' := (HR.out.1.cell (p := ⟨g, 1, none⟩) lg).trans c1
        have lg' := Nat.lt_of_lt_of_le lg HR.out.1.size
        have hHR := HR.out
        rcases hHR.2 with ⟨hz, hown⟩ | ⟨hz, hown⟩ | ⟨hz, hown⟩
        · rw [hz]
          have HO := Lib.hid (⟨hHR.1, hown⟩ : _ ∧ _)
          clear hz hown hHR HR i
          go_wp2_with (at_builtin; refine wpList_append_at (enc := Stp.enc) rfl _ _ 30 rfl ww.heap.size 47 i0 z0 3 i0.bytes Tryz.underlying30 HI.out.1 HI.out.2.1 HI.out.2.2.1 rfl HI.out.2.2.2.1 (by decide) _ 0 [] rfl HO.out.2 A n ca xs HN.out.1 rfl (HAB.out.1.below HO.out.1) (fun _ => rfl) stp_one ?b1 ?b2 HO.out.1.size ?_)
          case b1 => unfold maxLen; omega
          case b2 =>
            have h1 : 0 + n ≤ 2000 := by omega
            have h2 := Nat.mul_le_mul h1 HI.out.2.2.2.2
            omega
          intro v2 w2 hown2 hgrow2
          have HO2 := Lib.hid (⟨hown2, HO.out.1.grown hgrow2 HO.out.1.size (fun k e => (HO.out.2.lt k e).1)⟩ : _ ∧ _)
          clear hown2 hgrow2
          go_wp2
          go_roundw
          case rel => exact ⟨1, _, rfl, by first | rfl | go_num, Lib.hid ⟨HO2.out.2, .inr (.inl ⟨rfl, HO2.out.1⟩)⟩⟩
          case measure => simp [intOf]
        · rw [hz]
          have HO := Lib.hid (⟨hHR.1, hown⟩ : _ ∧ _)
          clear hz hown hHR HR i
          go_wp2_with (at_builtin; refine wpList_append_at (enc := Stp.enc) rfl _ _ 30 rfl ww.heap.size 47 i0 z0 3 i0.bytes Tryz.underlying30 HI.out.1 HI.out.2.1 HI.out.2.2.1 rfl HI.out.2.2.2.1 (by decide) _ n _ rfl HO.out.2 B m cb ys HN.out.2 rfl (HAB.out.2.below HO.out.1) (fun _ => rfl) stp_one ?b1 ?b2 HO.out.1.size ?_)
          case b1 => unfold maxLen; omega
          case b2 =>
            have h1 : n + m ≤ 2000 := by omega
            have h2 := Nat.mul_le_mul h1 HI.out.2.2.2.2
            omega
          intro v2 w2 hown2 hgrow2
          have HO2 := Lib.hid (⟨hown2, HO.out.1.grown hgrow2 HO.out.1.size (fun k e => (HO.out.2.lt k e).1)⟩ : _ ∧ _)
          clear hown2 hgrow2
          go_wp2
          go_roundw
          case rel => exact ⟨2, _, rfl, by first | rfl | go_num, Lib.hid ⟨HO2.out.2, .inr (.inr ⟨rfl, by rw [List.flatMap_append]; exact HO2.out.1⟩)⟩⟩
          case measure => simp [intOf]
        · rw [hz]
          have HO := Lib.hid (⟨hHR.1, hown⟩ : _ ∧ _)
          clear hz hown hHR HR i
          go_wp2
          go_ret
          refine ⟨_, rfl, HO.out.1, ?_⟩
          have h := HO.out.2
          rw [HN.out.1, HN.out.2, ← List.length_append] at h
          exact at_of_row (enc := Stp.enc) (k := 3) (fun _ => rfl) (by decide) h
end Go.Proofs.YtpcojaoeahdgcaaGreatDoor

/-
  route.Check, Is.
-/
namespace Go.Proofs.YtpcojaoeahdgcaaGreatDoor
open Go.RowKit Go.Shelf
attribute [local go_sem] Oper.semAt_some

/-- A frame by its name. -/
theorem wp_act {P : Program} {c : Code} {Q : Exit → Act → World → Prop} {tm : Array Value} {ds : List Deferred} {w : World} (h : ∀ T, T = tm → c.wp P Q { tmps := T, defers := ds } w) : c.wp P Q { tmps := tm, defers := ds } w := h _ rfl
def noSig (L : Lay) (xs : List Stp) (k : Nat) : Bool := decide (sigIx L (xs.getD k default).s (xs.getD k default).i < 0)
theorem noSig_all {L : Lay} {xs : List Stp} (h : ∀ k ∈ rprs (xs.length - 1), noSig L xs k = true) : ∀ (k : Nat) (x : Stp), xs[k + 1]? = some x → sigIx L x.s x.i < 0 := by
  intro k x hx
  have hl := (List.getElem?_eq_some_iff.1 hx).1
  have := h (k + 1) (by unfold rprs; rw [List.mem_range']; exact ⟨k, by omega, by omega⟩)
  unfold noSig at this
  rw [List.getD_eq_getElem?_getD, hx] at this
  exact of_decide_eq_true this
theorem noSig_no {L : Lay} {xs : List Stp} {k : Nat} (hk : k ∈ rprs (xs.length - 1)) (h : noSig L xs k = false) : ¬ ∀ (k : Nat) (x : Stp), xs[k + 1]? = some x → sigIx L x.s x.i < 0 := by
  intro hall
  unfold rprs at hk
  rw [List.mem_range'] at hk
  obtain ⟨i, hi, rfl⟩ := hk
  have h2 : i + 1 < xs.length := by omega
  have := hall i xs[i + 1] (List.getElem?_eq_getElem h2)
  unfold noSig at h
  rw [show 1 + 1 * i = i + 1 by omega, List.getD_eq_getElem?_getD, List.getElem?_eq_getElem h2] at h
  exact absurd this (of_decide_eq_false h)
def SX (L : Lay) (xs : List Stp) (c : Code) (pre : List Nat) : Prop := c = .goto 0 ∧ ∃ k ∈ pre, noSig L xs k = false
def CAx (T : Array Value) (xs : List Stp) (k : Nat) (a' : Act) (W : World) : Prop :=
  ∃ b, a' = { tmps := ((T.setIfInBounds 113 (stpV (xs.getD (k - 1) default))).setIfInBounds 114 (stpV (xs.getD k default))).setIfInBounds 10 (.pointer (some ⟨b, 0, none⟩)), defers := [] } ∧ RowAt' W 3 Stp.enc b 0 [xs.getD k default]
theorem CAx.same {T : Array Value} {xs : List Stp} {k : Nat} {a' : Act} {W W' : World} (h : CAx T xs k a' W) (s : SameCells W W') (hs : W.heap.size ≤ W'.heap.size) : CAx T xs k a' W' := by
  obtain ⟨b, e, h1⟩ := h
  exact ⟨b, e, h1.same s hs⟩

set_option maxRecDepth 100000 in
set_option maxHeartbeats 32000000 in
theorem rcheck_any (L : Lay) (P : Where) (sg ex : Int) (A V : Option Addr) (cap vcap : Nat) (xs : List Stp) (vs : List Int) (w : World) (hL : LayAt w P L) (K : Kinds w) (E : JEnd w) (hA : At w 3 Stp.enc A xs) (hl : xs.length ≤ cap) (hm : cap ≤ 9223372036854775807) (hx : xs.length ≤ 1000)
    (hV : At w 1 intEnc V vs) (hv : vs.length ≤ vcap) (hvm : vcap ≤ 9223372036854775807) :
    Calls Tryz.prog 6 #[L.val P, .agg #[.int .i64 sg, .int .i64 ex, .slice A xs.length cap], .slice V vs.length vcap] w fun e w' => e = .returned (.int .i64 (routeN L sg ex xs vs)) ∧ Below w.heap.size w w' := by
  obtain ⟨r, hr⟩ : ∃ r, r = routeN L sg ex xs vs := ⟨_, rfl⟩
  have hr0 : ¬ ArgsOk L sg ex vs → r = 2 := fun h => hr.trans (route_arg h)
  have hr1 : ∀ (n m : Nat) sp ep, sg = n → ex = m → ArgsOk L n m vs → L.sigs[n]? = some sp → L.exits[m]? = some ep → ¬ RouteOk L sp ep xs vs → r = 110 := fun n m sp ep e1 e2 h1 h2 h3 h4 => by
    subst e1 e2
    exact hr.trans (route_no h1 h2 h3 h4)
  have hr2 : ∀ (n m : Nat) sp ep, sg = n → ex = m → ArgsOk L n m vs → L.sigs[n]? = some sp → L.exits[m]? = some ep → RouteOk L sp ep xs vs → r = 0 := fun n m sp ep e1 e2 h1 h2 h3 h4 => by
    subst e1 e2
    exact hr.trans (route_yes h1 h2 h3 h4)
  rw [← hr]
  have htr := fun X (hX : Below w.heap.size w X) => topoRight_any L P X (hL.below hX) (K.below hX) (E.below hX)
  have hci := fun X (hX : Below w.heap.size w X) (hBX : BoxL X w.heap.size L P) => containsInt_any 21 #[.pointer (some ⟨w.heap.size, 0, none⟩)] (enters_of Tryz.func21 (by kernel_rfl) rfl) (fun v : Int => viaBad L v) V vcap vs X (hV.below hX) hv hvm
    (fun W x _ hb => check1_any L P w.heap.size x W (hBX.below hb))
  have hgo := fun X (hX : Below w.heap.size w X) => goes_any L P A cap xs X (hL.below hX) (K.below hX) (E.below hX) (hA.below hX) hl hm
  have hth := fun X (hX : Below w.heap.size w X) => through_any sg ex A V cap vcap xs vs X (hA.below hX) (hV.below hX) (Nat.le_trans hl hm) hv hvm
  have hpr := fun W => pairs_fn A xs.length cap W
  have hsg := fun s q X (hX : Below w.heap.size w X) => signal_any L P s q X (hL.below hX)
  obtain ⟨qt, hqt⟩ : ∃ q, q = topoR L := ⟨_, rfl⟩
  obtain ⟨qv, hqv⟩ : ∃ q, q = vs.any fun v : Int => viaBad L v := ⟨_, rfl⟩
  obtain ⟨qg, hqg⟩ : ∃ q, q = goesL L xs := ⟨_, rfl⟩
  obtain ⟨qh, hqh⟩ : ∃ q, q = throughL vs xs := ⟨_, rfl⟩
  obtain ⟨len, hlen⟩ : ∃ len, len = xs.length := ⟨_, rfl⟩
  obtain ⟨vn, hvn⟩ : ∃ vn, vn = vs.length := ⟨_, rfl⟩
  rw [← hqt] at htr
  rw [← hqv, ← hvn] at hci
  rw [← hqg, ← hlen] at hgo
  rw [← hqh, ← hlen, ← hvn] at hth
  rw [← hlen] at hpr hl hx
  rw [← hlen, ← hvn]
  rw [← hvn] at hv
  obtain ⟨a0, a1, a2, a3, p0, p1, p2, p3⟩ := P
  unfold Lay.val at htr hgo hsg ⊢
  have HR := Lib.hid (⟨hr0, hr1, hr2⟩ : _ ∧ _ ∧ _)
  have HTR := Lib.hid htr
  have HCI := Lib.hid hci
  have HGO := Lib.hid hgo
  have HTH := Lib.hid hth
  have HPR := Lib.hid hpr
  have HSIG := Lib.hid hsg
  have HQ := Lib.hid (⟨hqt, hqv, hqg, hqh, hlen, hvn⟩ : _ ∧ _ ∧ _ ∧ _ ∧ _ ∧ _)
  have HA := Lib.hid (⟨hA, hV⟩ : _ ∧ _)
  have HLL := Lib.hid hL
  have mlen : len ≤ 9223372036854775807 := Nat.le_trans hl hm
  have mvn : vn ≤ 9223372036854775807 := Nat.le_trans hv hvm
  have ms : L.sigs.length ≤ 9223372036854775807 := Nat.le_trans hL.l1.1 hL.l1.2
  have me : L.exits.length ≤ 9223372036854775807 := Nat.le_trans hL.l2.1 hL.l2.2
  clear hr hr0 hr1 hr2 htr hci hgo hth hpr hsg hqt hqv hqg hqh hlen hvn hA hV hL K E
  refine calls_marked w.heap.size Tryz.func6 rfl ?_
  simp only [Tryz.ntmps6, List.size_toArray, List.length_cons, List.length_nil, Nat.reduceAdd, Nat.reduceSub, Array.replicate_succ, Array.replicate_zero, List.push_toArray, List.append_toArray, List.nil_append, List.cons_append]
  go_wp2_with fail
  refine wp_scope_fwd 0 rfl ?_
  go_upto_region 4 with fail
  obtain ⟨X, hX⟩ : ∃ X, X = ((w.alloc (.cells #[.slice a0 L.secs.length p0, .slice a1 L.sigs.length p1, .slice a2 L.exits.length p2, .slice a3 L.flanks.length p3, .int .i64 L.t0, .int .i64 L.t1, .int .i64 L.t2, .int .i64 L.t3, .int .i64 L.t4, .int .i64 L.t5, .int .i64 L.t6] 29)).alloc (.cells #[.int .i64 sg, .int .i64 ex, .slice A len cap] 32)).alloc (.cells #[.int .i64 0, .int .i64 0, .slice none 0 0] 51) := ⟨_, rfl⟩
  have hB : Below w.heap.size w X := by rw [hX]; exact bchain (bchain bself bself) bself
  have hBL : BoxL X w.heap.size L ⟨a0, a1, a2, a3, p0, p1, p2, p3⟩ := by rw [hX]; exact ((BoxL.make (L := L) (p := ⟨a0, a1, a2, a3, p0, p1, p2, p3⟩) _ rfl).below bself).below bself
  have q0 : X.cell? ⟨w.heap.size + 1, 0, none⟩ = some (.int .i64 sg) := by rw [hX]; simp [go_sem]
  have q1 : X.cell? ⟨w.heap.size + 1, 1, none⟩ = some (.int .i64 ex) := by rw [hX]; simp [go_sem]
  have q2 : X.cell? ⟨w.heap.size + 1, 2, none⟩ = some (.slice A len cap) := by rw [hX]; simp [go_sem]
  have z0 : X.cell? ⟨w.heap.size + 1 + 1, 0, none⟩ = some (.int .i64 0) := by rw [hX]; simp [go_sem]
  have z1 : X.cell? ⟨w.heap.size + 1 + 1, 1, none⟩ = some (.int .i64 0) := by rw [hX]; simp [go_sem]
  have z2 : X.cell? ⟨w.heap.size + 1 + 1, 2, none⟩ = some (.slice none 0 0) := by rw [hX]; simp [go_sem]
  have zf : ∀ o, X.frozen? ⟨w.heap.size + 1 + 1, o, none⟩ = false := fun o => by rw [hX]; simp [go_sem]
  have hsz : X.heap.size = w.heap.size + 3 := by rw [hX]; simp
  rw [← hX]
  have HX := Lib.hid (⟨hB, hBL, q0, q1, q2, z0, z1, z2, zf, hsz⟩ : _ ∧ _ ∧ _ ∧ _ ∧ _ ∧ _ ∧ _ ∧ _ ∧ _ ∧ _)
  obtain ⟨c0, c1, c2, c3, c4, c5, c6, c7, c8, c9, c10⟩ := hBL.cells
  have lg := hBL.1
  have lg1 : w.heap.size + 1 < X.heap.size := by omega
  dsimp only at c0 c1 c2 c3
  clear hX hB hBL z0 z1 z2 zf hsz
  by_cases h0 : sg < 0 ∨ L.sigs.length ≤ sg ∨ ex < 0 ∨ L.exits.length ≤ ex ∨ 2 < vn
  · obtain rfl : r = 2 := HR.out.1 fun h => by
      obtain ⟨h1, h2, h3, _⟩ := h
      rw [← HQ.out.2.2.2.2.2] at h3
      omega
    go_wp2_with fail
    all_goals
      first
        | (exfalso; omega)
        | (
           refine wp_goto ?_
           refine ⟨rfl, ?_⟩
           go_wp2
           rw [Exit.noGoto_ret]
           exact ⟨⟨[], Marked.nil _ _⟩, fun w' hb hk => ⟨.int .i64 2, by simp [results, Tryz.results6, go_sem], rfl, (HX.out.1).trans hb⟩⟩)
  have d0 : decide (sg < 0) = false := decide_eq_false (by omega)
  have d1 : decide ((L.sigs.length : Int) ≤ sg) = false := decide_eq_false (by omega)
  have d2 : decide (ex < 0) = false := decide_eq_false (by omega)
  have d3 : decide ((L.exits.length : Int) ≤ ex) = false := decide_eq_false (by omega)
  have d4 : decide ((2 : Int) < (vn : Int)) = false := decide_eq_false (by omega)
  obtain ⟨n, rfl⟩ : ∃ n : Nat, sg = n := ⟨sg.toNat, by omega⟩
  obtain ⟨m, rfl⟩ : ∃ m : Nat, ex = m := ⟨ex.toNat, by omega⟩
  have hn : n < L.sigs.length := by omega
  have hm2 : m < L.exits.length := by omega
  have HH := Lib.hid h0
  clear h0
  go_wp2_with fail
  (with_reducible refine (HTR.out X HX.out.1).mono ?_)
  rintro e w1 ⟨rfl, b1⟩
  have HB1 := Lib.hid b1
  clear b1 c0 c1 c2 c3 c4 c5 c6 c7 c8 c9 c10 lg lg1 q0 q1 q2
  cases qt with
  | false =>
    obtain rfl : r = 2 := HR.out.1 fun h => by
      exact absurd (HQ.out.1.trans h.2.2.2.1) (by simp)
    go_wp2_with fail
    refine wp_goto ?_
    refine ⟨rfl, ?_⟩
    go_wp2
    rw [Exit.noGoto_ret]
    exact ⟨⟨[], Marked.nil _ _⟩, fun w' hb hk => ⟨.int .i64 2, by simp [results, Tryz.results6, go_sem], rfl, (bchain HX.out.1 HB1.out).trans hb⟩⟩
  | true =>
  go_wp2_with fail
  (with_reducible refine (HCI.out w1 (bchain HX.out.1 HB1.out) (HX.out.2.1.below HB1.out)).mono ?_)
  rintro e w2 ⟨rfl, b2⟩
  have HB2 := Lib.hid (bchain HB1.out b2)
  clear b2
  cases qv with
  | true =>
    obtain rfl : r = 2 := HR.out.1 fun h => by
      obtain ⟨v, hv1, hv2⟩ := List.any_eq_true.1 HQ.out.2.1.symm
      have := h.2.2.2.2 v hv1
      unfold viaBad at hv2
      simp at hv2
      omega
    go_wp2_with fail
    refine wp_goto ?_
    refine ⟨rfl, ?_⟩
    go_wp2
    rw [Exit.noGoto_ret]
    exact ⟨⟨[], Marked.nil _ _⟩, fun w' hb hk => ⟨.int .i64 2, by simp [results, Tryz.results6, go_sem], rfl, (bchain HX.out.1 HB2.out).trans hb⟩⟩
  | false =>
  have hargs : ArgsOk L n m vs := by
    have hh := HH.out
    refine ⟨⟨by omega, by omega⟩, ⟨by omega, by omega⟩, by rw [← HQ.out.2.2.2.2.2]; omega, HQ.out.1.symm, fun v hv1 => ?_⟩
    have := List.any_eq_false.1 HQ.out.2.1.symm v hv1
    unfold viaBad at this
    simp at this
    omega
  obtain ⟨sp, hsp⟩ : ∃ sp, L.sigs[n]? = some sp := ⟨_, List.getElem?_eq_getElem hn⟩
  obtain ⟨es0, hes, hAt, hov⟩ := HLL.out.exits
  have hBw2 := bchain HX.out.1 HB2.out
  have hlen2 : es0.length = L.exits.length := by rw [← hes, List.length_map]
  obtain ⟨eb, eo, hAe, hrow⟩ := hAt.get (j := m) (by omega)
  obtain ⟨y, hy⟩ : ∃ y, es0[m]? = some y := ⟨es0[m]'(by omega), List.getElem?_eq_getElem (by omega)⟩
  have hep : L.exits[m]? = some y.1 := by rw [← hes, List.getElem?_map, hy]; rfl
  have k0 : w2.cell? ⟨eb, eo + m * 3, none⟩ = some (.int .i64 y.1.s) := (hBw2.cell (p := ⟨eb, eo + m * 3, none⟩) hrow.1).trans (hrow.2 m y hy 0 _ rfl)
  have k1 : w2.cell? ⟨eb, eo + m * 3 + 1, none⟩ = some (.int .i64 y.1.p) := (hBw2.cell (p := ⟨eb, eo + m * 3 + 1, none⟩) hrow.1).trans (hrow.2 m y hy 1 _ rfl)
  have k2 : w2.cell? ⟨eb, eo + m * 3 + 2, none⟩ = some y.2 := (hBw2.cell (p := ⟨eb, eo + m * 3 + 2, none⟩) hrow.1).trans (hrow.2 m y hy 2 _ rfl)
  obtain ⟨oA, oc, ove, hvl, hvm2, hva⟩ := hov y (List.mem_of_getElem? hy)
  have hout : overT L y.1 = true ∧ (secsOf y.1.over).Nodup := by
    refine ⟨?_, over_once HQ.out.1.symm (List.mem_of_getElem? hep)⟩
    obtain ⟨hR, _⟩ := (topoR_iff L).1 HQ.out.1.symm
    exact ((right_iff L).1 hR).2.2.2.2.2.2.2 _ (List.mem_of_getElem? hep)
  have holen : y.1.over.length ≤ 1000 := by
    have := hout.1
    unfold overT at this
    rw [Bool.and_eq_true, decide_eq_true_iff] at this
    omega
  have hcc := HR.out.2.1 n m sp y.1 rfl rfl hargs hsp hep
  have hdd := HR.out.2.2 n m sp y.1 rfl rfl hargs hsp hep
  rw [ove] at k2
  dsimp only at hAe
  subst hAe
  have leb := Nat.lt_of_lt_of_le hrow.1 hBw2.size
  obtain ⟨⟨es, ep, ov⟩, yv⟩ := y
  dsimp only at k0 k1 k2 hcc hdd hvl hva hout holen
  obtain ⟨ol, hol⟩ : ∃ ol, ol = ov.length := ⟨_, rfl⟩
  rw [← hol] at k2 hvl holen
  have HRR := Lib.hid (⟨hcc, hdd⟩ : _ ∧ _)
  have HOV := Lib.hid (⟨hva, hout.2, hol, hvl, hvm2⟩ : _ ∧ _ ∧ _ ∧ _ ∧ _)
  clear hcc hdd hva hout hol hvl hvm2 hes hAt hov hlen2 hrow hy hep ove hargs hBw2
  have hb2 := HX.out.2.1.below HB2.out
  obtain ⟨c0, c1, c2, c3, c4, c5, c6, c7, c8, c9, c10⟩ := hb2.cells
  have lg := hb2.1
  dsimp only at c0 c1 c2 c3
  obtain ⟨cc, cf, cl⟩ := bcell HB2.out
  have s1 : w.heap.size + 1 < X.heap.size := by have := HX.out.2.2.2.2.2.2.2.2.2; omega
  have s2 : w.heap.size + 1 + 1 < X.heap.size := by have := HX.out.2.2.2.2.2.2.2.2.2; omega
  have q0 := (cc (w.heap.size + 1) 0 s1).trans HX.out.2.2.1
  have q1 := (cc (w.heap.size + 1) 1 s1).trans HX.out.2.2.2.1
  have q2 := (cc (w.heap.size + 1) 2 s1).trans HX.out.2.2.2.2.1
  have z0 := (cc (w.heap.size + 1 + 1) 0 s2).trans HX.out.2.2.2.2.2.1
  have z1 := (cc (w.heap.size + 1 + 1) 1 s2).trans HX.out.2.2.2.2.2.2.1
  have z2 := (cc (w.heap.size + 1 + 1) 2 s2).trans HX.out.2.2.2.2.2.2.2.1
  have f0 := (cf (w.heap.size + 1 + 1) 0 s2).trans (HX.out.2.2.2.2.2.2.2.2.1 0)
  have f1 := (cf (w.heap.size + 1 + 1) 1 s2).trans (HX.out.2.2.2.2.2.2.2.2.1 1)
  have f2 := (cf (w.heap.size + 1 + 1) 2 s2).trans (HX.out.2.2.2.2.2.2.2.2.1 2)
  have l1 := cl _ s1
  have l2 := cl _ s2
  clear hb2 cc cf cl s1 s2 d0 d1 d2 d3 d4
  go_wp2_with fail
  go_region
  obtain ⟨U, hU⟩ : ∃ U, U = (((w2.setCell ⟨w.heap.size + 1 + 1, 0, none⟩ (.int .i64 es)).setCell ⟨w.heap.size + 1 + 1, 1, none⟩ (.int .i64 ep)).setCell ⟨w.heap.size + 1 + 1, 2, none⟩ (.slice oA ol oc)).drew := ⟨_, rfl⟩
  rw [← hU]
  have hwU : Below w.heap.size w U := by
    rw [hU]
    refine Below.drew ?_
    repeat refine Below.setCell ?_ (by dsimp only; omega) _
    exact bchain HX.out.1 HB2.out
  have hBU : BoxL U w.heap.size L ⟨a0, a1, some ⟨eb, eo, none⟩, a3, p0, p1, p2, p3⟩ := by
    rw [hU]
    exact (((HX.out.2.1.below HB2.out).set (by omega)).set (by omega)).set (by omega)
  have u0 : U.cell? ⟨w.heap.size + 1, 0, none⟩ = some (.int .i64 (n : Nat)) := by rw [hU]; simp [go_sem, q0]
  have u1 : U.cell? ⟨w.heap.size + 1, 1, none⟩ = some (.int .i64 (m : Nat)) := by rw [hU]; simp [go_sem, q1]
  have u2 : U.cell? ⟨w.heap.size + 1, 2, none⟩ = some (.slice A len cap) := by rw [hU]; simp [go_sem, q2]
  have v0 : U.cell? ⟨w.heap.size + 1 + 1, 0, none⟩ = some (.int .i64 es) := by rw [hU]; simp [go_sem, z0]
  have v1 : U.cell? ⟨w.heap.size + 1 + 1, 1, none⟩ = some (.int .i64 ep) := by rw [hU]; simp [go_sem, z1]
  have v2 : U.cell? ⟨w.heap.size + 1 + 1, 2, none⟩ = some (.slice oA ol oc) := by rw [hU]; simp [go_sem, z2]
  have m1 : w.heap.size + 1 < U.heap.size := by rw [hU]; simpa [World.setCell] using l1
  have m2 : w.heap.size + 1 + 1 < U.heap.size := by rw [hU]; simpa [World.setCell] using l2
  have hovU : At U 3 Stp.enc oA ov := HOV.out.1.below hwU
  have HU := Lib.hid (⟨hwU, hBU, u0, u1, u2, v0, v1, v2, m1, m2, hovU⟩ : _ ∧ _ ∧ _ ∧ _ ∧ _ ∧ _ ∧ _ ∧ _ ∧ _ ∧ _ ∧ _)
  clear hU hwU hBU u0 u1 u2 v0 v1 v2 m1 m2 hovU c0 c1 c2 c3 c4 c5 c6 c7 c8 c9 c10 lg q0 q1 q2 z0 z1 z2 f0 f1 f2 l1 l2 k0 k1 k2 leb
  go_upto_region 7 with fail
  have hAU := HA.out.1.below HU.out.1
  have hA2 := HU.out.2.2.2.2.1
  have q2' : ∀ V', ClB U V' → V'.cell? ⟨w.heap.size + 1, 2, none⟩ = some (.slice A len cap) := fun V' h => (h.cell (p := ⟨w.heap.size + 1, 2, none⟩) HU.out.2.2.2.2.2.2.2.2.1).trans hA2
  have q0 : ∀ V', ClB U V' → V'.cell? ⟨w.heap.size + 1, 0, none⟩ = some (.int .i64 (n : Nat)) := fun V' h => (h.cell (p := ⟨w.heap.size + 1, 0, none⟩) HU.out.2.2.2.2.2.2.2.2.1).trans HU.out.2.2.1
  have e0 : ∀ V', ClB U V' → V'.cell? ⟨w.heap.size + 1 + 1, 0, none⟩ = some (.int .i64 es) := fun V' h => (h.cell (p := ⟨w.heap.size + 1 + 1, 0, none⟩) HU.out.2.2.2.2.2.2.2.2.2.1).trans HU.out.2.2.2.2.2.1
  have e1 : ∀ V', ClB U V' → V'.cell? ⟨w.heap.size + 1 + 1, 1, none⟩ = some (.int .i64 ep) := fun V' h => (h.cell (p := ⟨w.heap.size + 1 + 1, 1, none⟩) HU.out.2.2.2.2.2.2.2.2.2.1).trans HU.out.2.2.2.2.2.2.1
  have c1 : ∀ V', ClB U V' → V'.cell? ⟨w.heap.size, 1, none⟩ = some (.slice a1 L.sigs.length p1) := fun V' h => (HU.out.2.1.below h).cells.2.1
  have hle := HQ.out.2.2.2.2.1
  by_cases hl0 : len = 0
  · subst hl0
    obtain rfl : r = 110 := HRR.out.1 fun h => by have := h.1.1; omega
    clear hAU hA2 q0 e0 e1 c1 hle
    focus
      refine wp_region_rel_below [([(8, none)], none), ([(57, some 0)], none), ([(58, some 0)], none), ([(8, none), (59, some 0)], some (59, false)), ([(60, some 0), (59, some 1)], some (59, false)), ([(59, some 2), (61, some 0)], none), ([(62, some 0)], none), ([(4, none), (63, some 0)], some (63, false)), ([(64, some 0), (63, some 1)], some (63, false)), ([(65, some 0), (63, some 2)], some (63, false)), ([(66, some 0), (63, some 3)], some (63, false)), ([(67, some 0), (63, some 4)], some (63, false)), ([(3, none), (63, some 5)], some (63, false)), ([(69, some 0), (63, some 6)], some (63, false)), ([(4, none), (63, some 7)], some (63, false)), ([(71, some 0), (63, some 8)], some (63, false)), ([(70, some 2), (72, some 0), (63, some 9)], some (63, false)), ([(73, some 0), (63, some 10)], some (63, false)), ([(74, some 0), (63, some 11)], some (63, false)), ([(68, some 7), (75, some 0), (63, some 12)], some (63, false)), ([(63, some 13), (76, some 0)], none), ([(77, some 0)], none), ([(4, none), (78, some 0)], some (78, false)), ([(79, some 0), (78, some 1)], some (78, false)), ([(8, none), (78, some 2)], some (78, false)), ([(81, some 0), (78, some 3)], some (78, false)), ([(80, some 2), (82, some 0), (78, some 4)], some (78, false)), ([(83, some 0), (78, some 5)], some (78, false)), ([(84, some 0), (78, some 6)], some (78, false)), ([(7, none), (78, some 7)], some (78, false)), ([(86, some 0), (78, some 8)], some (78, false)), ([(85, some 2), (87, some 0), (78, some 9)], some (78, false)), ([(78, some 10), (88, some 0)], none)] [(0, 89)] (by kernel_rfl) (by kernel_rfl) ?_
      refine ob_det (c := .int .i64 (0 : Nat)) ?_ ?_
      · intro ρ W hk hC
        simp only [seen, obOp]
        rintro h8
        replace h8 : ρ (.tmp 8) = .int .i64 (0 : Nat) := h8.trans rfl
        exact rel_value (by simp [go_sem, h8]) hC
      refine ob_det (c := .bool true) ?_ ?_
      · intro ρ W hk hC
        simp only [seen, obOp, List.getD_cons_zero]
        rintro h57
        exact rel_value (by simp [go_sem, h57, hk.const]) hC
      refine ob_det (c := .bool true) ?_ ?_
      · intro ρ W hk hC
        simp only [seen, obOp, List.getD_cons_zero]
        rintro h58
        exact rel_value (by simp [go_sem, h58]) hC
      refine ob_det (c := undef) ?_ ?_
      · intro ρ W hk hC
        simp only [seen, obOp, List.getD_cons_zero]
        rintro h8 h59
        replace h8 : ρ (.tmp 8) = .int .i64 (0 : Nat) := h8.trans rfl
        exact ⟨fun h => absurd (h.symm.trans h59) (by first | simp | simp [undef]), fun _ => by trivial⟩
      refine ob_det (c := undef) ?_ ?_
      · intro ρ W hk hC
        simp only [seen, obOp, List.getD_cons_zero, List.getD_cons_succ]
        rintro h60 h59
        exact ⟨fun h => absurd (h.symm.trans h59) (by first | simp | simp [undef]), fun _ => by trivial⟩
      refine ob_det (c := .bool true) ?_ ?_
      · intro ρ W hk hC
        simp only [seen, obOp, List.getD_cons_zero, List.getD_cons_succ]
        rintro h59 h61
        exact rel_value (by simp [go_sem, h59, h61, hk.const]) hC
      refine ob_det (c := .bool true) ?_ ?_
      · intro ρ W hk hC
        simp only [seen, obOp, List.getD_cons_zero]
        rintro h62
        exact rel_value (by simp [go_sem, h62]) hC
      refine ob_det (c := undef) ?_ ?_
      · intro ρ W hk hC
        simp only [seen, obOp, List.getD_cons_zero]
        rintro h4 h63
        replace h4 : ρ (.tmp 4) = .pointer (some ⟨w.heap.size + 1, 0, none⟩) := h4.trans rfl
        exact ⟨fun h => absurd (h.symm.trans h63) (by first | simp | simp [undef]), fun _ => by trivial⟩
      refine ob_det (c := undef) ?_ ?_
      · intro ρ W hk hC
        simp only [seen, obOp, List.getD_cons_zero, List.getD_cons_succ]
        rintro h64 h63
        exact ⟨fun h => absurd (h.symm.trans h63) (by first | simp | simp [undef]), fun _ => by trivial⟩
      refine ob_det (c := undef) ?_ ?_
      · intro ρ W hk hC
        simp only [seen, obOp, List.getD_cons_zero, List.getD_cons_succ]
        rintro h65 h63
        exact ⟨fun h => absurd (h.symm.trans h63) (by first | simp | simp [undef]), fun _ => by trivial⟩
      refine ob_det (c := undef) ?_ ?_
      · intro ρ W hk hC
        simp only [seen, obOp, List.getD_cons_zero, List.getD_cons_succ]
        rintro h66 h63
        exact ⟨fun h => absurd (h.symm.trans h63) (by first | simp | simp [undef]), fun _ => by trivial⟩
      refine ob_det (c := undef) ?_ ?_
      · intro ρ W hk hC
        simp only [seen, obOp, List.getD_cons_zero, List.getD_cons_succ]
        rintro h67 h63
        exact ⟨fun h => absurd (h.symm.trans h63) (by first | simp | simp [undef]), fun _ => by trivial⟩
      refine ob_det (c := undef) ?_ ?_
      · intro ρ W hk hC
        simp only [seen, obOp, List.getD_cons_zero, List.getD_cons_succ]
        rintro h3 h63
        replace h3 : ρ (.tmp 3) = .pointer (some ⟨w.heap.size, 0, none⟩) := h3.trans rfl
        exact ⟨fun h => absurd (h.symm.trans h63) (by first | simp | simp [undef]), fun _ => by trivial⟩
      refine ob_det (c := undef) ?_ ?_
      · intro ρ W hk hC
        simp only [seen, obOp, List.getD_cons_zero, List.getD_cons_succ]
        rintro h69 h63
        exact ⟨fun h => absurd (h.symm.trans h63) (by first | simp | simp [undef]), fun _ => by trivial⟩
      refine ob_det (c := undef) ?_ ?_
      · intro ρ W hk hC
        simp only [seen, obOp, List.getD_cons_zero, List.getD_cons_succ]
        rintro h4 h63
        replace h4 : ρ (.tmp 4) = .pointer (some ⟨w.heap.size + 1, 0, none⟩) := h4.trans rfl
        exact ⟨fun h => absurd (h.symm.trans h63) (by first | simp | simp [undef]), fun _ => by trivial⟩
      refine ob_det (c := undef) ?_ ?_
      · intro ρ W hk hC
        simp only [seen, obOp, List.getD_cons_zero, List.getD_cons_succ]
        rintro h71 h63
        exact ⟨fun h => absurd (h.symm.trans h63) (by first | simp | simp [undef]), fun _ => by trivial⟩
      refine ob_det (c := undef) ?_ ?_
      · intro ρ W hk hC
        simp only [seen, obOp, List.getD_cons_zero, List.getD_cons_succ]
        rintro h70 h72 h63
        exact ⟨fun h => absurd (h.symm.trans h63) (by first | simp | simp [undef]), fun _ => by trivial⟩
      refine ob_det (c := undef) ?_ ?_
      · intro ρ W hk hC
        simp only [seen, obOp, List.getD_cons_zero, List.getD_cons_succ]
        rintro h73 h63
        exact ⟨fun h => absurd (h.symm.trans h63) (by first | simp | simp [undef]), fun _ => by trivial⟩
      refine ob_det (c := undef) ?_ ?_
      · intro ρ W hk hC
        simp only [seen, obOp, List.getD_cons_zero, List.getD_cons_succ]
        rintro h74 h63
        exact ⟨fun h => absurd (h.symm.trans h63) (by first | simp | simp [undef]), fun _ => by trivial⟩
      refine ob_det (c := undef) ?_ ?_
      · intro ρ W hk hC
        simp only [seen, obOp, List.getD_cons_zero, List.getD_cons_succ]
        rintro h68 h75 h63
        exact ⟨fun h => absurd (h.symm.trans h63) (by first | simp | simp [undef]), fun _ => by trivial⟩
      refine ob_det (c := .bool true) ?_ ?_
      · intro ρ W hk hC
        simp only [seen, obOp, List.getD_cons_zero, List.getD_cons_succ]
        rintro h63 h76
        exact rel_value (by simp [go_sem, h63, h76, hk.const]) hC
      refine ob_det (c := .bool true) ?_ ?_
      · intro ρ W hk hC
        simp only [seen, obOp, List.getD_cons_zero]
        rintro h77
        exact rel_value (by simp [go_sem, h77]) hC
      refine ob_det (c := undef) ?_ ?_
      · intro ρ W hk hC
        simp only [seen, obOp, List.getD_cons_zero]
        rintro h4 h78
        replace h4 : ρ (.tmp 4) = .pointer (some ⟨w.heap.size + 1, 0, none⟩) := h4.trans rfl
        exact ⟨fun h => absurd (h.symm.trans h78) (by first | simp | simp [undef]), fun _ => by trivial⟩
      refine ob_det (c := undef) ?_ ?_
      · intro ρ W hk hC
        simp only [seen, obOp, List.getD_cons_zero, List.getD_cons_succ]
        rintro h79 h78
        exact ⟨fun h => absurd (h.symm.trans h78) (by first | simp | simp [undef]), fun _ => by trivial⟩
      refine ob_det (c := undef) ?_ ?_
      · intro ρ W hk hC
        simp only [seen, obOp, List.getD_cons_zero, List.getD_cons_succ]
        rintro h8 h78
        replace h8 : ρ (.tmp 8) = .int .i64 (0 : Nat) := h8.trans rfl
        exact ⟨fun h => absurd (h.symm.trans h78) (by first | simp | simp [undef]), fun _ => by trivial⟩
      refine ob_det (c := undef) ?_ ?_
      · intro ρ W hk hC
        simp only [seen, obOp, List.getD_cons_zero, List.getD_cons_succ]
        rintro h81 h78
        exact ⟨fun h => absurd (h.symm.trans h78) (by first | simp | simp [undef]), fun _ => by trivial⟩
      refine ob_det (c := undef) ?_ ?_
      · intro ρ W hk hC
        simp only [seen, obOp, List.getD_cons_zero, List.getD_cons_succ]
        rintro h80 h82 h78
        exact ⟨fun h => absurd (h.symm.trans h78) (by first | simp | simp [undef]), fun _ => by trivial⟩
      refine ob_det (c := undef) ?_ ?_
      · intro ρ W hk hC
        simp only [seen, obOp, List.getD_cons_zero, List.getD_cons_succ]
        rintro h83 h78
        exact ⟨fun h => absurd (h.symm.trans h78) (by first | simp | simp [undef]), fun _ => by trivial⟩
      refine ob_det (c := undef) ?_ ?_
      · intro ρ W hk hC
        simp only [seen, obOp, List.getD_cons_zero, List.getD_cons_succ]
        rintro h84 h78
        exact ⟨fun h => absurd (h.symm.trans h78) (by first | simp | simp [undef]), fun _ => by trivial⟩
      refine ob_det (c := undef) ?_ ?_
      · intro ρ W hk hC
        simp only [seen, obOp, List.getD_cons_zero, List.getD_cons_succ]
        rintro h7 h78
        replace h7 : ρ (.tmp 7) = .pointer (some ⟨w.heap.size + 1 + 1, 0, none⟩) := h7.trans rfl
        exact ⟨fun h => absurd (h.symm.trans h78) (by first | simp | simp [undef]), fun _ => by trivial⟩
      refine ob_det (c := undef) ?_ ?_
      · intro ρ W hk hC
        simp only [seen, obOp, List.getD_cons_zero, List.getD_cons_succ]
        rintro h86 h78
        exact ⟨fun h => absurd (h.symm.trans h78) (by first | simp | simp [undef]), fun _ => by trivial⟩
      refine ob_det (c := undef) ?_ ?_
      · intro ρ W hk hC
        simp only [seen, obOp, List.getD_cons_zero, List.getD_cons_succ]
        rintro h85 h87 h78
        exact ⟨fun h => absurd (h.symm.trans h78) (by first | simp | simp [undef]), fun _ => by trivial⟩
      refine ob_det (c := .bool true) ?_ ?_
      · intro ρ W hk hC
        simp only [seen, obOp, List.getD_cons_zero, List.getD_cons_succ]
        rintro h78 h88
        exact rel_value (by simp [go_sem, h78, h88, hk.const]) hC
      intro vs5 w5 hC5
      simp only [endSeen, List.getD_cons_zero]
      intro h89
      simp only [writeAll, List.setIfInBounds_toArray, List.set_cons_zero, List.set_cons_succ, h89]
      go_wp2_with fail
      refine wp_goto ?_
      refine ⟨rfl, ?_⟩
      go_wp2
      rw [Exit.noGoto_ret]
      exact ⟨⟨[], Marked.nil _ _⟩, fun w' hb hk => ⟨.int .i64 110, by simp [results, Tryz.results6, go_sem], rfl, (bchain HU.out.1 hC5).trans hb⟩⟩
  by_cases hl12 : 12 < len
  · obtain rfl : r = 110 := HRR.out.1 fun h => by have := h.1.2; omega
    have hc1 : decide ((len : Int) < 1) = false := decide_eq_false (by omega)
    have hc12 : decide ((12 : Int) < (len : Int)) = true := decide_eq_true (by omega)
    clear hAU hA2 q0 e0 e1 c1 hle
    focus
      refine wp_region_rel_below [([(8, none)], none), ([(57, some 0)], none), ([(58, some 0)], none), ([(8, none), (59, some 0)], some (59, false)), ([(60, some 0), (59, some 1)], some (59, false)), ([(59, some 2), (61, some 0)], none), ([(62, some 0)], none), ([(4, none), (63, some 0)], some (63, false)), ([(64, some 0), (63, some 1)], some (63, false)), ([(65, some 0), (63, some 2)], some (63, false)), ([(66, some 0), (63, some 3)], some (63, false)), ([(67, some 0), (63, some 4)], some (63, false)), ([(3, none), (63, some 5)], some (63, false)), ([(69, some 0), (63, some 6)], some (63, false)), ([(4, none), (63, some 7)], some (63, false)), ([(71, some 0), (63, some 8)], some (63, false)), ([(70, some 2), (72, some 0), (63, some 9)], some (63, false)), ([(73, some 0), (63, some 10)], some (63, false)), ([(74, some 0), (63, some 11)], some (63, false)), ([(68, some 7), (75, some 0), (63, some 12)], some (63, false)), ([(63, some 13), (76, some 0)], none), ([(77, some 0)], none), ([(4, none), (78, some 0)], some (78, false)), ([(79, some 0), (78, some 1)], some (78, false)), ([(8, none), (78, some 2)], some (78, false)), ([(81, some 0), (78, some 3)], some (78, false)), ([(80, some 2), (82, some 0), (78, some 4)], some (78, false)), ([(83, some 0), (78, some 5)], some (78, false)), ([(84, some 0), (78, some 6)], some (78, false)), ([(7, none), (78, some 7)], some (78, false)), ([(86, some 0), (78, some 8)], some (78, false)), ([(85, some 2), (87, some 0), (78, some 9)], some (78, false)), ([(78, some 10), (88, some 0)], none)] [(0, 89)] (by kernel_rfl) (by kernel_rfl) ?_
      refine ob_det (c := .int .i64 len) ?_ ?_
      · intro ρ W hk hC
        simp only [seen, obOp]
        rintro h8
        replace h8 : ρ (.tmp 8) = .int .i64 len := h8.trans rfl
        exact rel_value (by simp [go_sem, h8]) hC
      refine ob_det (c := .bool false) ?_ ?_
      · intro ρ W hk hC
        simp only [seen, obOp, List.getD_cons_zero]
        rintro h57
        exact rel_value (by simp [go_sem, h57, hk.const, hc1]) hC
      refine ob_det (c := .bool false) ?_ ?_
      · intro ρ W hk hC
        simp only [seen, obOp, List.getD_cons_zero]
        rintro h58
        exact rel_value (by simp [go_sem, h58]) hC
      refine ob_det (c := .int .i64 len) ?_ ?_
      · intro ρ W hk hC
        simp only [seen, obOp, List.getD_cons_zero]
        rintro h8 h59
        replace h8 : ρ (.tmp 8) = .int .i64 len := h8.trans rfl
        refine ⟨fun _ => ?_, fun hn => absurd h59 hn⟩
        exact rel_value (by simp [go_sem, h8]) hC
      refine ob_det (c := .bool true) ?_ ?_
      · intro ρ W hk hC
        simp only [seen, obOp, List.getD_cons_zero, List.getD_cons_succ]
        rintro h60 h59
        refine ⟨fun _ => ?_, fun hn => absurd h59 hn⟩
        exact rel_value (by simp [go_sem, h60, hk.const, hc12]) hC
      refine ob_det (c := .bool true) ?_ ?_
      · intro ρ W hk hC
        simp only [seen, obOp, List.getD_cons_zero, List.getD_cons_succ]
        rintro h59 h61
        exact rel_value (by simp [go_sem, h59, h61, hk.const]) hC
      refine ob_det (c := .bool true) ?_ ?_
      · intro ρ W hk hC
        simp only [seen, obOp, List.getD_cons_zero]
        rintro h62
        exact rel_value (by simp [go_sem, h62]) hC
      refine ob_det (c := undef) ?_ ?_
      · intro ρ W hk hC
        simp only [seen, obOp, List.getD_cons_zero]
        rintro h4 h63
        replace h4 : ρ (.tmp 4) = .pointer (some ⟨w.heap.size + 1, 0, none⟩) := h4.trans rfl
        exact ⟨fun h => absurd (h.symm.trans h63) (by first | simp | simp [undef]), fun _ => by trivial⟩
      refine ob_det (c := undef) ?_ ?_
      · intro ρ W hk hC
        simp only [seen, obOp, List.getD_cons_zero, List.getD_cons_succ]
        rintro h64 h63
        exact ⟨fun h => absurd (h.symm.trans h63) (by first | simp | simp [undef]), fun _ => by trivial⟩
      refine ob_det (c := undef) ?_ ?_
      · intro ρ W hk hC
        simp only [seen, obOp, List.getD_cons_zero, List.getD_cons_succ]
        rintro h65 h63
        exact ⟨fun h => absurd (h.symm.trans h63) (by first | simp | simp [undef]), fun _ => by trivial⟩
      refine ob_det (c := undef) ?_ ?_
      · intro ρ W hk hC
        simp only [seen, obOp, List.getD_cons_zero, List.getD_cons_succ]
        rintro h66 h63
        exact ⟨fun h => absurd (h.symm.trans h63) (by first | simp | simp [undef]), fun _ => by trivial⟩
      refine ob_det (c := undef) ?_ ?_
      · intro ρ W hk hC
        simp only [seen, obOp, List.getD_cons_zero, List.getD_cons_succ]
        rintro h67 h63
        exact ⟨fun h => absurd (h.symm.trans h63) (by first | simp | simp [undef]), fun _ => by trivial⟩
      refine ob_det (c := undef) ?_ ?_
      · intro ρ W hk hC
        simp only [seen, obOp, List.getD_cons_zero, List.getD_cons_succ]
        rintro h3 h63
        replace h3 : ρ (.tmp 3) = .pointer (some ⟨w.heap.size, 0, none⟩) := h3.trans rfl
        exact ⟨fun h => absurd (h.symm.trans h63) (by first | simp | simp [undef]), fun _ => by trivial⟩
      refine ob_det (c := undef) ?_ ?_
      · intro ρ W hk hC
        simp only [seen, obOp, List.getD_cons_zero, List.getD_cons_succ]
        rintro h69 h63
        exact ⟨fun h => absurd (h.symm.trans h63) (by first | simp | simp [undef]), fun _ => by trivial⟩
      refine ob_det (c := undef) ?_ ?_
      · intro ρ W hk hC
        simp only [seen, obOp, List.getD_cons_zero, List.getD_cons_succ]
        rintro h4 h63
        replace h4 : ρ (.tmp 4) = .pointer (some ⟨w.heap.size + 1, 0, none⟩) := h4.trans rfl
        exact ⟨fun h => absurd (h.symm.trans h63) (by first | simp | simp [undef]), fun _ => by trivial⟩
      refine ob_det (c := undef) ?_ ?_
      · intro ρ W hk hC
        simp only [seen, obOp, List.getD_cons_zero, List.getD_cons_succ]
        rintro h71 h63
        exact ⟨fun h => absurd (h.symm.trans h63) (by first | simp | simp [undef]), fun _ => by trivial⟩
      refine ob_det (c := undef) ?_ ?_
      · intro ρ W hk hC
        simp only [seen, obOp, List.getD_cons_zero, List.getD_cons_succ]
        rintro h70 h72 h63
        exact ⟨fun h => absurd (h.symm.trans h63) (by first | simp | simp [undef]), fun _ => by trivial⟩
      refine ob_det (c := undef) ?_ ?_
      · intro ρ W hk hC
        simp only [seen, obOp, List.getD_cons_zero, List.getD_cons_succ]
        rintro h73 h63
        exact ⟨fun h => absurd (h.symm.trans h63) (by first | simp | simp [undef]), fun _ => by trivial⟩
      refine ob_det (c := undef) ?_ ?_
      · intro ρ W hk hC
        simp only [seen, obOp, List.getD_cons_zero, List.getD_cons_succ]
        rintro h74 h63
        exact ⟨fun h => absurd (h.symm.trans h63) (by first | simp | simp [undef]), fun _ => by trivial⟩
      refine ob_det (c := undef) ?_ ?_
      · intro ρ W hk hC
        simp only [seen, obOp, List.getD_cons_zero, List.getD_cons_succ]
        rintro h68 h75 h63
        exact ⟨fun h => absurd (h.symm.trans h63) (by first | simp | simp [undef]), fun _ => by trivial⟩
      refine ob_det (c := .bool true) ?_ ?_
      · intro ρ W hk hC
        simp only [seen, obOp, List.getD_cons_zero, List.getD_cons_succ]
        rintro h63 h76
        exact rel_value (by simp [go_sem, h63, h76, hk.const]) hC
      refine ob_det (c := .bool true) ?_ ?_
      · intro ρ W hk hC
        simp only [seen, obOp, List.getD_cons_zero]
        rintro h77
        exact rel_value (by simp [go_sem, h77]) hC
      refine ob_det (c := undef) ?_ ?_
      · intro ρ W hk hC
        simp only [seen, obOp, List.getD_cons_zero]
        rintro h4 h78
        replace h4 : ρ (.tmp 4) = .pointer (some ⟨w.heap.size + 1, 0, none⟩) := h4.trans rfl
        exact ⟨fun h => absurd (h.symm.trans h78) (by first | simp | simp [undef]), fun _ => by trivial⟩
      refine ob_det (c := undef) ?_ ?_
      · intro ρ W hk hC
        simp only [seen, obOp, List.getD_cons_zero, List.getD_cons_succ]
        rintro h79 h78
        exact ⟨fun h => absurd (h.symm.trans h78) (by first | simp | simp [undef]), fun _ => by trivial⟩
      refine ob_det (c := undef) ?_ ?_
      · intro ρ W hk hC
        simp only [seen, obOp, List.getD_cons_zero, List.getD_cons_succ]
        rintro h8 h78
        replace h8 : ρ (.tmp 8) = .int .i64 len := h8.trans rfl
        exact ⟨fun h => absurd (h.symm.trans h78) (by first | simp | simp [undef]), fun _ => by trivial⟩
      refine ob_det (c := undef) ?_ ?_
      · intro ρ W hk hC
        simp only [seen, obOp, List.getD_cons_zero, List.getD_cons_succ]
        rintro h81 h78
        exact ⟨fun h => absurd (h.symm.trans h78) (by first | simp | simp [undef]), fun _ => by trivial⟩
      refine ob_det (c := undef) ?_ ?_
      · intro ρ W hk hC
        simp only [seen, obOp, List.getD_cons_zero, List.getD_cons_succ]
        rintro h80 h82 h78
        exact ⟨fun h => absurd (h.symm.trans h78) (by first | simp | simp [undef]), fun _ => by trivial⟩
      refine ob_det (c := undef) ?_ ?_
      · intro ρ W hk hC
        simp only [seen, obOp, List.getD_cons_zero, List.getD_cons_succ]
        rintro h83 h78
        exact ⟨fun h => absurd (h.symm.trans h78) (by first | simp | simp [undef]), fun _ => by trivial⟩
      refine ob_det (c := undef) ?_ ?_
      · intro ρ W hk hC
        simp only [seen, obOp, List.getD_cons_zero, List.getD_cons_succ]
        rintro h84 h78
        exact ⟨fun h => absurd (h.symm.trans h78) (by first | simp | simp [undef]), fun _ => by trivial⟩
      refine ob_det (c := undef) ?_ ?_
      · intro ρ W hk hC
        simp only [seen, obOp, List.getD_cons_zero, List.getD_cons_succ]
        rintro h7 h78
        replace h7 : ρ (.tmp 7) = .pointer (some ⟨w.heap.size + 1 + 1, 0, none⟩) := h7.trans rfl
        exact ⟨fun h => absurd (h.symm.trans h78) (by first | simp | simp [undef]), fun _ => by trivial⟩
      refine ob_det (c := undef) ?_ ?_
      · intro ρ W hk hC
        simp only [seen, obOp, List.getD_cons_zero, List.getD_cons_succ]
        rintro h86 h78
        exact ⟨fun h => absurd (h.symm.trans h78) (by first | simp | simp [undef]), fun _ => by trivial⟩
      refine ob_det (c := undef) ?_ ?_
      · intro ρ W hk hC
        simp only [seen, obOp, List.getD_cons_zero, List.getD_cons_succ]
        rintro h85 h87 h78
        exact ⟨fun h => absurd (h.symm.trans h78) (by first | simp | simp [undef]), fun _ => by trivial⟩
      refine ob_det (c := .bool true) ?_ ?_
      · intro ρ W hk hC
        simp only [seen, obOp, List.getD_cons_zero, List.getD_cons_succ]
        rintro h78 h88
        exact rel_value (by simp [go_sem, h78, h88, hk.const]) hC
      intro vs5 w5 hC5
      simp only [endSeen, List.getD_cons_zero]
      intro h89
      simp only [writeAll, List.setIfInBounds_toArray, List.set_cons_zero, List.set_cons_succ, h89]
      go_wp2_with fail
      refine wp_goto ?_
      refine ⟨rfl, ?_⟩
      go_wp2
      rw [Exit.noGoto_ret]
      exact ⟨⟨[], Marked.nil _ _⟩, fun w' hb hk => ⟨.int .i64 110, by simp [results, Tryz.results6, go_sem], rfl, (bchain HU.out.1 hC5).trans hb⟩⟩
  obtain ⟨lm, hlm⟩ : ∃ lm, len = lm + 1 := ⟨len - 1, by omega⟩
  have hc1 : decide ((len : Int) < 1) = false := decide_eq_false (by omega)
  have hc12 : decide ((12 : Int) < (len : Int)) = false := decide_eq_false (by omega)
  have hpos : 0 < len := by omega
  have hsub : (len : Int) - 1 = (lm : Int) := by omega
  have hwm : IntKind.wrap .i64 (lm : Int) = (lm : Int) := by rw [IntKind.wrap_i64]; omega
  have hml : lm < len := by omega
  have hsn := hn
  obtain ⟨b, off, hAe, hrow⟩ := hAU.get (j := 0) (by rw [← hle]; omega)
  subst hAe
  obtain ⟨x, hx0⟩ : ∃ x, xs[0]? = some x := ⟨_, List.getElem?_eq_getElem (by rw [← hle]; omega)⟩
  obtain ⟨y, hy0⟩ : ∃ y, xs[lm]? = some y := ⟨_, List.getElem?_eq_getElem (by rw [← hle]; omega)⟩
  have HXY := Lib.hid (⟨hx0, hy0⟩ : _ ∧ _)
  obtain ⟨xa, xb, xc⟩ := x
  obtain ⟨ya, yb, yc⟩ := y
  have lb := hrow.1
  have x0 : ∀ V', ClB U V' → V'.cell? ⟨b, off, none⟩ = some (.int .i64 xa) := fun V' h => (h.cell (p := ⟨b, off, none⟩) lb).trans (by simpa using hrow.2 0 _ hx0 0 _ rfl)
  have x1 : ∀ V', ClB U V' → V'.cell? ⟨b, off + 1, none⟩ = some (.int .i64 xb) := fun V' h => (h.cell (p := ⟨b, off + 1, none⟩) lb).trans (by simpa using hrow.2 0 _ hx0 1 _ rfl)
  have x2 : ∀ V', ClB U V' → V'.cell? ⟨b, off + 2, none⟩ = some (.int .i64 xc) := fun V' h => (h.cell (p := ⟨b, off + 2, none⟩) lb).trans (by simpa using hrow.2 0 _ hx0 2 _ rfl)
  have y0 : ∀ V', ClB U V' → V'.cell? ⟨b, off + lm * 3, none⟩ = some (.int .i64 ya) := fun V' h => (h.cell (p := ⟨b, off + lm * 3, none⟩) lb).trans (hrow.2 lm _ hy0 0 _ rfl)
  have y1 : ∀ V', ClB U V' → V'.cell? ⟨b, off + lm * 3 + 1, none⟩ = some (.int .i64 yb) := fun V' h => (h.cell (p := ⟨b, off + lm * 3 + 1, none⟩) lb).trans (hrow.2 lm _ hy0 1 _ rfl)
  have y2 : ∀ V', ClB U V' → V'.cell? ⟨b, off + lm * 3 + 2, none⟩ = some (.int .i64 yc) := fun V' h => (h.cell (p := ⟨b, off + lm * 3 + 2, none⟩) lb).trans (hrow.2 lm _ hy0 2 _ rfl)
  obtain ⟨sb, so, hSe, hsrow⟩ := (HLL.out.below HU.out.1).sigs.get (j := n) hn
  dsimp only at hSe
  subst hSe
  obtain ⟨ss, sq⟩ := sp
  have lsb := hsrow.1
  have s0 : ∀ V', ClB U V' → V'.cell? ⟨sb, so + n * 2, none⟩ = some (.int .i64 ss) := fun V' h => (h.cell (p := ⟨sb, so + n * 2, none⟩) lsb).trans (hsrow.2 n _ hsp 0 _ rfl)
  have s1 : ∀ V', ClB U V' → V'.cell? ⟨sb, so + n * 2 + 1, none⟩ = some (.int .i64 sq) := fun V' h => (h.cell (p := ⟨sb, so + n * 2 + 1, none⟩) lsb).trans (hsrow.2 n _ hsp 1 _ rfl)
  have hqS := fun V' => eqQ_portI xa xb ss sq V'
  have hqE := fun V' => eqQ_portI ya yc es ep V'
  clear hAU hrow hx0 hy0 hsrow
  by_cases hS : xa = ss ∧ xb = sq
  case neg =>
    obtain rfl : r = 110 := HRR.out.1 fun h => by
      have := h.2.1 _ HXY.out.1
      cases this
      exact hS ⟨rfl, rfl⟩
    rw [decide_eq_false hS] at hqS
    clear hS hqE y0 y1 y2 e0 e1 hle
    focus
      refine wp_region_rel_below [([(8, none)], none), ([(57, some 0)], none), ([(58, some 0)], none), ([(8, none), (59, some 0)], some (59, false)), ([(60, some 0), (59, some 1)], some (59, false)), ([(59, some 2), (61, some 0)], none), ([(62, some 0)], none), ([(4, none), (63, some 0)], some (63, false)), ([(64, some 0), (63, some 1)], some (63, false)), ([(65, some 0), (63, some 2)], some (63, false)), ([(66, some 0), (63, some 3)], some (63, false)), ([(67, some 0), (63, some 4)], some (63, false)), ([(3, none), (63, some 5)], some (63, false)), ([(69, some 0), (63, some 6)], some (63, false)), ([(4, none), (63, some 7)], some (63, false)), ([(71, some 0), (63, some 8)], some (63, false)), ([(70, some 2), (72, some 0), (63, some 9)], some (63, false)), ([(73, some 0), (63, some 10)], some (63, false)), ([(74, some 0), (63, some 11)], some (63, false)), ([(68, some 7), (75, some 0), (63, some 12)], some (63, false)), ([(63, some 13), (76, some 0)], none), ([(77, some 0)], none), ([(4, none), (78, some 0)], some (78, false)), ([(79, some 0), (78, some 1)], some (78, false)), ([(8, none), (78, some 2)], some (78, false)), ([(81, some 0), (78, some 3)], some (78, false)), ([(80, some 2), (82, some 0), (78, some 4)], some (78, false)), ([(83, some 0), (78, some 5)], some (78, false)), ([(84, some 0), (78, some 6)], some (78, false)), ([(7, none), (78, some 7)], some (78, false)), ([(86, some 0), (78, some 8)], some (78, false)), ([(85, some 2), (87, some 0), (78, some 9)], some (78, false)), ([(78, some 10), (88, some 0)], none)] [(0, 89)] (by kernel_rfl) (by kernel_rfl) ?_
      refine ob_det (c := .int .i64 len) ?_ ?_
      · intro ρ W hk hC
        simp only [seen, obOp]
        rintro h8
        replace h8 : ρ (.tmp 8) = .int .i64 len := h8.trans rfl
        exact rel_value (by simp [go_sem, h8]) hC
      refine ob_det (c := .bool false) ?_ ?_
      · intro ρ W hk hC
        simp only [seen, obOp, List.getD_cons_zero]
        rintro h57
        exact rel_value (by simp [go_sem, h57, hk.const, hc1]) hC
      refine ob_det (c := .bool false) ?_ ?_
      · intro ρ W hk hC
        simp only [seen, obOp, List.getD_cons_zero]
        rintro h58
        exact rel_value (by simp [go_sem, h58]) hC
      refine ob_det (c := .int .i64 len) ?_ ?_
      · intro ρ W hk hC
        simp only [seen, obOp, List.getD_cons_zero]
        rintro h8 h59
        replace h8 : ρ (.tmp 8) = .int .i64 len := h8.trans rfl
        refine ⟨fun _ => ?_, fun hn => absurd h59 hn⟩
        exact rel_value (by simp [go_sem, h8]) hC
      refine ob_det (c := .bool false) ?_ ?_
      · intro ρ W hk hC
        simp only [seen, obOp, List.getD_cons_zero, List.getD_cons_succ]
        rintro h60 h59
        refine ⟨fun _ => ?_, fun hn => absurd h59 hn⟩
        exact rel_value (by simp [go_sem, h60, hk.const, hc12]) hC
      refine ob_det (c := .bool false) ?_ ?_
      · intro ρ W hk hC
        simp only [seen, obOp, List.getD_cons_zero, List.getD_cons_succ]
        rintro h59 h61
        exact rel_value (by simp [go_sem, h59, h61, hk.const]) hC
      refine ob_det (c := .bool false) ?_ ?_
      · intro ρ W hk hC
        simp only [seen, obOp, List.getD_cons_zero]
        rintro h62
        exact rel_value (by simp [go_sem, h62]) hC
      refine ob_det (c := .pointer (some ⟨w.heap.size + 1, 2, none⟩)) ?_ ?_
      · intro ρ W hk hC
        simp only [seen, obOp, List.getD_cons_zero]
        rintro h4 h63
        replace h4 : ρ (.tmp 4) = .pointer (some ⟨w.heap.size + 1, 0, none⟩) := h4.trans rfl
        refine ⟨fun _ => ?_, fun hn => absurd h63 hn⟩
        exact rel_value (by simp [go_sem, h4]) hC
      refine ob_det (c := .slice (some ⟨b, off, none⟩) len cap) ?_ ?_
      · intro ρ W hk hC
        simp only [seen, obOp, List.getD_cons_zero, List.getD_cons_succ]
        rintro h64 h63
        refine ⟨fun _ => ?_, fun hn => absurd h63 hn⟩
        exact rel_value (by simp [go_sem, h64, q2' W hC]) hC
      refine ob_det (c := .pointer (some ⟨b, off, none⟩)) ?_ ?_
      · intro ρ W hk hC
        simp only [seen, obOp, List.getD_cons_zero, List.getD_cons_succ]
        rintro h65 h63
        refine ⟨fun _ => ?_, fun hn => absurd h63 hn⟩
        exact rel_value (by simp [go_sem, h65, hk.const, hpos]) hC
      refine ob_det (c := .agg #[.int .i64 xa, .int .i64 xb, .int .i64 xc]) ?_ ?_
      · intro ρ W hk hC
        simp only [seen, obOp, List.getD_cons_zero, List.getD_cons_succ]
        rintro h66 h63
        refine ⟨fun _ => ?_, fun hn => absurd h63 hn⟩
        exact rel_value (by simp [go_sem, h66, x0 W hC, x1 W hC, x2 W hC]) hC
      refine ob_det (c := .agg #[.int .i64 xa, .int .i64 xb]) ?_ ?_
      · intro ρ W hk hC
        simp only [seen, obOp, List.getD_cons_zero, List.getD_cons_succ]
        rintro h67 h63
        refine ⟨fun _ => ?_, fun hn => absurd h63 hn⟩
        exact rel_call (f := 22) (args := #[.agg #[.int .i64 xa, .int .i64 xb, .int .i64 xc]]) (by simp [go_sem, h67, hk.func]) hC (rin_any xa xb xc W)
      refine ob_det (c := .pointer (some ⟨w.heap.size, 1, none⟩)) ?_ ?_
      · intro ρ W hk hC
        simp only [seen, obOp, List.getD_cons_zero, List.getD_cons_succ]
        rintro h3 h63
        replace h3 : ρ (.tmp 3) = .pointer (some ⟨w.heap.size, 0, none⟩) := h3.trans rfl
        refine ⟨fun _ => ?_, fun hn => absurd h63 hn⟩
        exact rel_value (by simp [go_sem, h3]) hC
      refine ob_det (c := .slice (some ⟨sb, so, none⟩) L.sigs.length p1) ?_ ?_
      · intro ρ W hk hC
        simp only [seen, obOp, List.getD_cons_zero, List.getD_cons_succ]
        rintro h69 h63
        refine ⟨fun _ => ?_, fun hn => absurd h63 hn⟩
        exact rel_value (by simp [go_sem, h69, c1 W hC]) hC
      refine ob_det (c := .pointer (some ⟨w.heap.size + 1, 0, none⟩)) ?_ ?_
      · intro ρ W hk hC
        simp only [seen, obOp, List.getD_cons_zero, List.getD_cons_succ]
        rintro h4 h63
        replace h4 : ρ (.tmp 4) = .pointer (some ⟨w.heap.size + 1, 0, none⟩) := h4.trans rfl
        refine ⟨fun _ => ?_, fun hn => absurd h63 hn⟩
        exact rel_value (by simp [go_sem, h4]) hC
      refine ob_det (c := .int .i64 (n : Nat)) ?_ ?_
      · intro ρ W hk hC
        simp only [seen, obOp, List.getD_cons_zero, List.getD_cons_succ]
        rintro h71 h63
        refine ⟨fun _ => ?_, fun hn => absurd h63 hn⟩
        exact rel_value (by simp [go_sem, h71, q0 W hC]) hC
      refine ob_det (c := .pointer (some ⟨sb, so + n * 2, none⟩)) ?_ ?_
      · intro ρ W hk hC
        simp only [seen, obOp, List.getD_cons_zero, List.getD_cons_succ]
        rintro h70 h72 h63
        refine ⟨fun _ => ?_, fun hn => absurd h63 hn⟩
        exact rel_value (by simp [go_sem, h70, h72, hsn]) hC
      refine ob_det (c := .pointer (some ⟨sb, so + n * 2, none⟩)) ?_ ?_
      · intro ρ W hk hC
        simp only [seen, obOp, List.getD_cons_zero, List.getD_cons_succ]
        rintro h73 h63
        refine ⟨fun _ => ?_, fun hn => absurd h63 hn⟩
        exact rel_value (by simp [go_sem, h73]) hC
      refine ob_det (c := .agg #[.int .i64 ss, .int .i64 sq]) ?_ ?_
      · intro ρ W hk hC
        simp only [seen, obOp, List.getD_cons_zero, List.getD_cons_succ]
        rintro h74 h63
        refine ⟨fun _ => ?_, fun hn => absurd h63 hn⟩
        exact rel_value (by simp [go_sem, h74, s0 W hC, s1 W hC]) hC
      refine ob_det (c := .bool true) ?_ ?_
      · intro ρ W hk hC
        simp only [seen, obOp, List.getD_cons_zero, List.getD_cons_succ]
        rintro h68 h75 h63
        refine ⟨fun _ => ?_, fun hn => absurd h63 hn⟩
        exact rel_value (by simp [go_sem, h68, h75, hqS]) hC
      refine ob_det (c := .bool true) ?_ ?_
      · intro ρ W hk hC
        simp only [seen, obOp, List.getD_cons_zero, List.getD_cons_succ]
        rintro h63 h76
        exact rel_value (by simp [go_sem, h63, h76, hk.const]) hC
      refine ob_det (c := .bool true) ?_ ?_
      · intro ρ W hk hC
        simp only [seen, obOp, List.getD_cons_zero]
        rintro h77
        exact rel_value (by simp [go_sem, h77]) hC
      refine ob_det (c := undef) ?_ ?_
      · intro ρ W hk hC
        simp only [seen, obOp, List.getD_cons_zero]
        rintro h4 h78
        replace h4 : ρ (.tmp 4) = .pointer (some ⟨w.heap.size + 1, 0, none⟩) := h4.trans rfl
        exact ⟨fun h => absurd (h.symm.trans h78) (by first | simp | simp [undef]), fun _ => by trivial⟩
      refine ob_det (c := undef) ?_ ?_
      · intro ρ W hk hC
        simp only [seen, obOp, List.getD_cons_zero, List.getD_cons_succ]
        rintro h79 h78
        exact ⟨fun h => absurd (h.symm.trans h78) (by first | simp | simp [undef]), fun _ => by trivial⟩
      refine ob_det (c := undef) ?_ ?_
      · intro ρ W hk hC
        simp only [seen, obOp, List.getD_cons_zero, List.getD_cons_succ]
        rintro h8 h78
        replace h8 : ρ (.tmp 8) = .int .i64 len := h8.trans rfl
        exact ⟨fun h => absurd (h.symm.trans h78) (by first | simp | simp [undef]), fun _ => by trivial⟩
      refine ob_det (c := undef) ?_ ?_
      · intro ρ W hk hC
        simp only [seen, obOp, List.getD_cons_zero, List.getD_cons_succ]
        rintro h81 h78
        exact ⟨fun h => absurd (h.symm.trans h78) (by first | simp | simp [undef]), fun _ => by trivial⟩
      refine ob_det (c := undef) ?_ ?_
      · intro ρ W hk hC
        simp only [seen, obOp, List.getD_cons_zero, List.getD_cons_succ]
        rintro h80 h82 h78
        exact ⟨fun h => absurd (h.symm.trans h78) (by first | simp | simp [undef]), fun _ => by trivial⟩
      refine ob_det (c := undef) ?_ ?_
      · intro ρ W hk hC
        simp only [seen, obOp, List.getD_cons_zero, List.getD_cons_succ]
        rintro h83 h78
        exact ⟨fun h => absurd (h.symm.trans h78) (by first | simp | simp [undef]), fun _ => by trivial⟩
      refine ob_det (c := undef) ?_ ?_
      · intro ρ W hk hC
        simp only [seen, obOp, List.getD_cons_zero, List.getD_cons_succ]
        rintro h84 h78
        exact ⟨fun h => absurd (h.symm.trans h78) (by first | simp | simp [undef]), fun _ => by trivial⟩
      refine ob_det (c := undef) ?_ ?_
      · intro ρ W hk hC
        simp only [seen, obOp, List.getD_cons_zero, List.getD_cons_succ]
        rintro h7 h78
        replace h7 : ρ (.tmp 7) = .pointer (some ⟨w.heap.size + 1 + 1, 0, none⟩) := h7.trans rfl
        exact ⟨fun h => absurd (h.symm.trans h78) (by first | simp | simp [undef]), fun _ => by trivial⟩
      refine ob_det (c := undef) ?_ ?_
      · intro ρ W hk hC
        simp only [seen, obOp, List.getD_cons_zero, List.getD_cons_succ]
        rintro h86 h78
        exact ⟨fun h => absurd (h.symm.trans h78) (by first | simp | simp [undef]), fun _ => by trivial⟩
      refine ob_det (c := undef) ?_ ?_
      · intro ρ W hk hC
        simp only [seen, obOp, List.getD_cons_zero, List.getD_cons_succ]
        rintro h85 h87 h78
        exact ⟨fun h => absurd (h.symm.trans h78) (by first | simp | simp [undef]), fun _ => by trivial⟩
      refine ob_det (c := .bool true) ?_ ?_
      · intro ρ W hk hC
        simp only [seen, obOp, List.getD_cons_zero, List.getD_cons_succ]
        rintro h78 h88
        exact rel_value (by simp [go_sem, h78, h88, hk.const]) hC
      intro vs5 w5 hC5
      simp only [endSeen, List.getD_cons_zero]
      intro h89
      simp only [writeAll, List.setIfInBounds_toArray, List.set_cons_zero, List.set_cons_succ, h89]
      go_wp2_with fail
      refine wp_goto ?_
      refine ⟨rfl, ?_⟩
      go_wp2
      rw [Exit.noGoto_ret]
      exact ⟨⟨[], Marked.nil _ _⟩, fun w' hb hk => ⟨.int .i64 110, by simp [results, Tryz.results6, go_sem], rfl, (bchain HU.out.1 hC5).trans hb⟩⟩
  rw [decide_eq_true hS] at hqS
  by_cases hE : ya = es ∧ yc = ep
  case neg =>
    obtain rfl : r = 110 := HRR.out.1 fun h => by
      have := h.2.2.1 _ (by rw [← HQ.out.2.2.2.2.1, hlm, Nat.add_sub_cancel]; exact HXY.out.2)
      cases this
      exact hE ⟨rfl, rfl⟩
    rw [decide_eq_false hE] at hqE
    clear hS hE hle
    focus
      refine wp_region_rel_below [([(8, none)], none), ([(57, some 0)], none), ([(58, some 0)], none), ([(8, none), (59, some 0)], some (59, false)), ([(60, some 0), (59, some 1)], some (59, false)), ([(59, some 2), (61, some 0)], none), ([(62, some 0)], none), ([(4, none), (63, some 0)], some (63, false)), ([(64, some 0), (63, some 1)], some (63, false)), ([(65, some 0), (63, some 2)], some (63, false)), ([(66, some 0), (63, some 3)], some (63, false)), ([(67, some 0), (63, some 4)], some (63, false)), ([(3, none), (63, some 5)], some (63, false)), ([(69, some 0), (63, some 6)], some (63, false)), ([(4, none), (63, some 7)], some (63, false)), ([(71, some 0), (63, some 8)], some (63, false)), ([(70, some 2), (72, some 0), (63, some 9)], some (63, false)), ([(73, some 0), (63, some 10)], some (63, false)), ([(74, some 0), (63, some 11)], some (63, false)), ([(68, some 7), (75, some 0), (63, some 12)], some (63, false)), ([(63, some 13), (76, some 0)], none), ([(77, some 0)], none), ([(4, none), (78, some 0)], some (78, false)), ([(79, some 0), (78, some 1)], some (78, false)), ([(8, none), (78, some 2)], some (78, false)), ([(81, some 0), (78, some 3)], some (78, false)), ([(80, some 2), (82, some 0), (78, some 4)], some (78, false)), ([(83, some 0), (78, some 5)], some (78, false)), ([(84, some 0), (78, some 6)], some (78, false)), ([(7, none), (78, some 7)], some (78, false)), ([(86, some 0), (78, some 8)], some (78, false)), ([(85, some 2), (87, some 0), (78, some 9)], some (78, false)), ([(78, some 10), (88, some 0)], none)] [(0, 89)] (by kernel_rfl) (by kernel_rfl) ?_
      refine ob_det (c := .int .i64 len) ?_ ?_
      · intro ρ W hk hC
        simp only [seen, obOp]
        rintro h8
        replace h8 : ρ (.tmp 8) = .int .i64 len := h8.trans rfl
        exact rel_value (by simp [go_sem, h8]) hC
      refine ob_det (c := .bool false) ?_ ?_
      · intro ρ W hk hC
        simp only [seen, obOp, List.getD_cons_zero]
        rintro h57
        exact rel_value (by simp [go_sem, h57, hk.const, hc1]) hC
      refine ob_det (c := .bool false) ?_ ?_
      · intro ρ W hk hC
        simp only [seen, obOp, List.getD_cons_zero]
        rintro h58
        exact rel_value (by simp [go_sem, h58]) hC
      refine ob_det (c := .int .i64 len) ?_ ?_
      · intro ρ W hk hC
        simp only [seen, obOp, List.getD_cons_zero]
        rintro h8 h59
        replace h8 : ρ (.tmp 8) = .int .i64 len := h8.trans rfl
        refine ⟨fun _ => ?_, fun hn => absurd h59 hn⟩
        exact rel_value (by simp [go_sem, h8]) hC
      refine ob_det (c := .bool false) ?_ ?_
      · intro ρ W hk hC
        simp only [seen, obOp, List.getD_cons_zero, List.getD_cons_succ]
        rintro h60 h59
        refine ⟨fun _ => ?_, fun hn => absurd h59 hn⟩
        exact rel_value (by simp [go_sem, h60, hk.const, hc12]) hC
      refine ob_det (c := .bool false) ?_ ?_
      · intro ρ W hk hC
        simp only [seen, obOp, List.getD_cons_zero, List.getD_cons_succ]
        rintro h59 h61
        exact rel_value (by simp [go_sem, h59, h61, hk.const]) hC
      refine ob_det (c := .bool false) ?_ ?_
      · intro ρ W hk hC
        simp only [seen, obOp, List.getD_cons_zero]
        rintro h62
        exact rel_value (by simp [go_sem, h62]) hC
      refine ob_det (c := .pointer (some ⟨w.heap.size + 1, 2, none⟩)) ?_ ?_
      · intro ρ W hk hC
        simp only [seen, obOp, List.getD_cons_zero]
        rintro h4 h63
        replace h4 : ρ (.tmp 4) = .pointer (some ⟨w.heap.size + 1, 0, none⟩) := h4.trans rfl
        refine ⟨fun _ => ?_, fun hn => absurd h63 hn⟩
        exact rel_value (by simp [go_sem, h4]) hC
      refine ob_det (c := .slice (some ⟨b, off, none⟩) len cap) ?_ ?_
      · intro ρ W hk hC
        simp only [seen, obOp, List.getD_cons_zero, List.getD_cons_succ]
        rintro h64 h63
        refine ⟨fun _ => ?_, fun hn => absurd h63 hn⟩
        exact rel_value (by simp [go_sem, h64, q2' W hC]) hC
      refine ob_det (c := .pointer (some ⟨b, off, none⟩)) ?_ ?_
      · intro ρ W hk hC
        simp only [seen, obOp, List.getD_cons_zero, List.getD_cons_succ]
        rintro h65 h63
        refine ⟨fun _ => ?_, fun hn => absurd h63 hn⟩
        exact rel_value (by simp [go_sem, h65, hk.const, hpos]) hC
      refine ob_det (c := .agg #[.int .i64 xa, .int .i64 xb, .int .i64 xc]) ?_ ?_
      · intro ρ W hk hC
        simp only [seen, obOp, List.getD_cons_zero, List.getD_cons_succ]
        rintro h66 h63
        refine ⟨fun _ => ?_, fun hn => absurd h63 hn⟩
        exact rel_value (by simp [go_sem, h66, x0 W hC, x1 W hC, x2 W hC]) hC
      refine ob_det (c := .agg #[.int .i64 xa, .int .i64 xb]) ?_ ?_
      · intro ρ W hk hC
        simp only [seen, obOp, List.getD_cons_zero, List.getD_cons_succ]
        rintro h67 h63
        refine ⟨fun _ => ?_, fun hn => absurd h63 hn⟩
        exact rel_call (f := 22) (args := #[.agg #[.int .i64 xa, .int .i64 xb, .int .i64 xc]]) (by simp [go_sem, h67, hk.func]) hC (rin_any xa xb xc W)
      refine ob_det (c := .pointer (some ⟨w.heap.size, 1, none⟩)) ?_ ?_
      · intro ρ W hk hC
        simp only [seen, obOp, List.getD_cons_zero, List.getD_cons_succ]
        rintro h3 h63
        replace h3 : ρ (.tmp 3) = .pointer (some ⟨w.heap.size, 0, none⟩) := h3.trans rfl
        refine ⟨fun _ => ?_, fun hn => absurd h63 hn⟩
        exact rel_value (by simp [go_sem, h3]) hC
      refine ob_det (c := .slice (some ⟨sb, so, none⟩) L.sigs.length p1) ?_ ?_
      · intro ρ W hk hC
        simp only [seen, obOp, List.getD_cons_zero, List.getD_cons_succ]
        rintro h69 h63
        refine ⟨fun _ => ?_, fun hn => absurd h63 hn⟩
        exact rel_value (by simp [go_sem, h69, c1 W hC]) hC
      refine ob_det (c := .pointer (some ⟨w.heap.size + 1, 0, none⟩)) ?_ ?_
      · intro ρ W hk hC
        simp only [seen, obOp, List.getD_cons_zero, List.getD_cons_succ]
        rintro h4 h63
        replace h4 : ρ (.tmp 4) = .pointer (some ⟨w.heap.size + 1, 0, none⟩) := h4.trans rfl
        refine ⟨fun _ => ?_, fun hn => absurd h63 hn⟩
        exact rel_value (by simp [go_sem, h4]) hC
      refine ob_det (c := .int .i64 (n : Nat)) ?_ ?_
      · intro ρ W hk hC
        simp only [seen, obOp, List.getD_cons_zero, List.getD_cons_succ]
        rintro h71 h63
        refine ⟨fun _ => ?_, fun hn => absurd h63 hn⟩
        exact rel_value (by simp [go_sem, h71, q0 W hC]) hC
      refine ob_det (c := .pointer (some ⟨sb, so + n * 2, none⟩)) ?_ ?_
      · intro ρ W hk hC
        simp only [seen, obOp, List.getD_cons_zero, List.getD_cons_succ]
        rintro h70 h72 h63
        refine ⟨fun _ => ?_, fun hn => absurd h63 hn⟩
        exact rel_value (by simp [go_sem, h70, h72, hsn]) hC
      refine ob_det (c := .pointer (some ⟨sb, so + n * 2, none⟩)) ?_ ?_
      · intro ρ W hk hC
        simp only [seen, obOp, List.getD_cons_zero, List.getD_cons_succ]
        rintro h73 h63
        refine ⟨fun _ => ?_, fun hn => absurd h63 hn⟩
        exact rel_value (by simp [go_sem, h73]) hC
      refine ob_det (c := .agg #[.int .i64 ss, .int .i64 sq]) ?_ ?_
      · intro ρ W hk hC
        simp only [seen, obOp, List.getD_cons_zero, List.getD_cons_succ]
        rintro h74 h63
        refine ⟨fun _ => ?_, fun hn => absurd h63 hn⟩
        exact rel_value (by simp [go_sem, h74, s0 W hC, s1 W hC]) hC
      refine ob_det (c := .bool false) ?_ ?_
      · intro ρ W hk hC
        simp only [seen, obOp, List.getD_cons_zero, List.getD_cons_succ]
        rintro h68 h75 h63
        refine ⟨fun _ => ?_, fun hn => absurd h63 hn⟩
        exact rel_value (by simp [go_sem, h68, h75, hqS]) hC
      refine ob_det (c := .bool false) ?_ ?_
      · intro ρ W hk hC
        simp only [seen, obOp, List.getD_cons_zero, List.getD_cons_succ]
        rintro h63 h76
        exact rel_value (by simp [go_sem, h63, h76, hk.const]) hC
      refine ob_det (c := .bool false) ?_ ?_
      · intro ρ W hk hC
        simp only [seen, obOp, List.getD_cons_zero]
        rintro h77
        exact rel_value (by simp [go_sem, h77]) hC
      refine ob_det (c := .pointer (some ⟨w.heap.size + 1, 2, none⟩)) ?_ ?_
      · intro ρ W hk hC
        simp only [seen, obOp, List.getD_cons_zero]
        rintro h4 h78
        replace h4 : ρ (.tmp 4) = .pointer (some ⟨w.heap.size + 1, 0, none⟩) := h4.trans rfl
        refine ⟨fun _ => ?_, fun hn => absurd h78 hn⟩
        exact rel_value (by simp [go_sem, h4]) hC
      refine ob_det (c := .slice (some ⟨b, off, none⟩) len cap) ?_ ?_
      · intro ρ W hk hC
        simp only [seen, obOp, List.getD_cons_zero, List.getD_cons_succ]
        rintro h79 h78
        refine ⟨fun _ => ?_, fun hn => absurd h78 hn⟩
        exact rel_value (by simp [go_sem, h79, q2' W hC]) hC
      refine ob_det (c := .int .i64 len) ?_ ?_
      · intro ρ W hk hC
        simp only [seen, obOp, List.getD_cons_zero, List.getD_cons_succ]
        rintro h8 h78
        replace h8 : ρ (.tmp 8) = .int .i64 len := h8.trans rfl
        refine ⟨fun _ => ?_, fun hn => absurd h78 hn⟩
        exact rel_value (by simp [go_sem, h8]) hC
      refine ob_det (c := .int .i64 (lm : Nat)) ?_ ?_
      · intro ρ W hk hC
        simp only [seen, obOp, List.getD_cons_zero, List.getD_cons_succ]
        rintro h81 h78
        refine ⟨fun _ => ?_, fun hn => absurd h78 hn⟩
        exact rel_value (by simp [go_sem, h81, hk.const, hsub, hwm]) hC
      refine ob_det (c := .pointer (some ⟨b, off + lm * 3, none⟩)) ?_ ?_
      · intro ρ W hk hC
        simp only [seen, obOp, List.getD_cons_zero, List.getD_cons_succ]
        rintro h80 h82 h78
        refine ⟨fun _ => ?_, fun hn => absurd h78 hn⟩
        exact rel_value (by simp [go_sem, h80, h82, hml]) hC
      refine ob_det (c := .agg #[.int .i64 ya, .int .i64 yb, .int .i64 yc]) ?_ ?_
      · intro ρ W hk hC
        simp only [seen, obOp, List.getD_cons_zero, List.getD_cons_succ]
        rintro h83 h78
        refine ⟨fun _ => ?_, fun hn => absurd h78 hn⟩
        exact rel_value (by simp [go_sem, h83, y0 W hC, y1 W hC, y2 W hC]) hC
      refine ob_det (c := .agg #[.int .i64 ya, .int .i64 yc]) ?_ ?_
      · intro ρ W hk hC
        simp only [seen, obOp, List.getD_cons_zero, List.getD_cons_succ]
        rintro h84 h78
        refine ⟨fun _ => ?_, fun hn => absurd h78 hn⟩
        exact rel_call (f := 23) (args := #[.agg #[.int .i64 ya, .int .i64 yb, .int .i64 yc]]) (by simp [go_sem, h84, hk.func]) hC (rout_any ya yb yc W)
      refine ob_det (c := .pointer (some ⟨w.heap.size + 1 + 1, 0, none⟩)) ?_ ?_
      · intro ρ W hk hC
        simp only [seen, obOp, List.getD_cons_zero, List.getD_cons_succ]
        rintro h7 h78
        replace h7 : ρ (.tmp 7) = .pointer (some ⟨w.heap.size + 1 + 1, 0, none⟩) := h7.trans rfl
        refine ⟨fun _ => ?_, fun hn => absurd h78 hn⟩
        exact rel_value (by simp [go_sem, h7]) hC
      refine ob_det (c := .agg #[.int .i64 es, .int .i64 ep]) ?_ ?_
      · intro ρ W hk hC
        simp only [seen, obOp, List.getD_cons_zero, List.getD_cons_succ]
        rintro h86 h78
        refine ⟨fun _ => ?_, fun hn => absurd h78 hn⟩
        exact rel_value (by simp [go_sem, h86, e0 W hC, e1 W hC]) hC
      refine ob_det (c := .bool true) ?_ ?_
      · intro ρ W hk hC
        simp only [seen, obOp, List.getD_cons_zero, List.getD_cons_succ]
        rintro h85 h87 h78
        refine ⟨fun _ => ?_, fun hn => absurd h78 hn⟩
        exact rel_value (by simp [go_sem, h85, h87, hqE]) hC
      refine ob_det (c := .bool true) ?_ ?_
      · intro ρ W hk hC
        simp only [seen, obOp, List.getD_cons_zero, List.getD_cons_succ]
        rintro h78 h88
        exact rel_value (by simp [go_sem, h78, h88, hk.const]) hC
      intro vs5 w5 hC5
      simp only [endSeen, List.getD_cons_zero]
      intro h89
      simp only [writeAll, List.setIfInBounds_toArray, List.set_cons_zero, List.set_cons_succ, h89]
      go_wp2_with fail
      refine wp_goto ?_
      refine ⟨rfl, ?_⟩
      go_wp2
      rw [Exit.noGoto_ret]
      exact ⟨⟨[], Marked.nil _ _⟩, fun w' hb hk => ⟨.int .i64 110, by simp [results, Tryz.results6, go_sem], rfl, (bchain HU.out.1 hC5).trans hb⟩⟩
  rw [decide_eq_true hE] at hqE
  have HSE := Lib.hid (⟨hS, hE, hlm, hle⟩ : _ ∧ _ ∧ _ ∧ _)
  clear hS hE hle
  focus
    refine wp_region_rel_below [([(8, none)], none), ([(57, some 0)], none), ([(58, some 0)], none), ([(8, none), (59, some 0)], some (59, false)), ([(60, some 0), (59, some 1)], some (59, false)), ([(59, some 2), (61, some 0)], none), ([(62, some 0)], none), ([(4, none), (63, some 0)], some (63, false)), ([(64, some 0), (63, some 1)], some (63, false)), ([(65, some 0), (63, some 2)], some (63, false)), ([(66, some 0), (63, some 3)], some (63, false)), ([(67, some 0), (63, some 4)], some (63, false)), ([(3, none), (63, some 5)], some (63, false)), ([(69, some 0), (63, some 6)], some (63, false)), ([(4, none), (63, some 7)], some (63, false)), ([(71, some 0), (63, some 8)], some (63, false)), ([(70, some 2), (72, some 0), (63, some 9)], some (63, false)), ([(73, some 0), (63, some 10)], some (63, false)), ([(74, some 0), (63, some 11)], some (63, false)), ([(68, some 7), (75, some 0), (63, some 12)], some (63, false)), ([(63, some 13), (76, some 0)], none), ([(77, some 0)], none), ([(4, none), (78, some 0)], some (78, false)), ([(79, some 0), (78, some 1)], some (78, false)), ([(8, none), (78, some 2)], some (78, false)), ([(81, some 0), (78, some 3)], some (78, false)), ([(80, some 2), (82, some 0), (78, some 4)], some (78, false)), ([(83, some 0), (78, some 5)], some (78, false)), ([(84, some 0), (78, some 6)], some (78, false)), ([(7, none), (78, some 7)], some (78, false)), ([(86, some 0), (78, some 8)], some (78, false)), ([(85, some 2), (87, some 0), (78, some 9)], some (78, false)), ([(78, some 10), (88, some 0)], none)] [(0, 89)] (by kernel_rfl) (by kernel_rfl) ?_
    refine ob_det (c := .int .i64 len) ?_ ?_
    · intro ρ W hk hC
      simp only [seen, obOp]
      rintro h8
      replace h8 : ρ (.tmp 8) = .int .i64 len := h8.trans rfl
      exact rel_value (by simp [go_sem, h8]) hC
    refine ob_det (c := .bool false) ?_ ?_
    · intro ρ W hk hC
      simp only [seen, obOp, List.getD_cons_zero]
      rintro h57
      exact rel_value (by simp [go_sem, h57, hk.const, hc1]) hC
    refine ob_det (c := .bool false) ?_ ?_
    · intro ρ W hk hC
      simp only [seen, obOp, List.getD_cons_zero]
      rintro h58
      exact rel_value (by simp [go_sem, h58]) hC
    refine ob_det (c := .int .i64 len) ?_ ?_
    · intro ρ W hk hC
      simp only [seen, obOp, List.getD_cons_zero]
      rintro h8 h59
      replace h8 : ρ (.tmp 8) = .int .i64 len := h8.trans rfl
      refine ⟨fun _ => ?_, fun hn => absurd h59 hn⟩
      exact rel_value (by simp [go_sem, h8]) hC
    refine ob_det (c := .bool false) ?_ ?_
    · intro ρ W hk hC
      simp only [seen, obOp, List.getD_cons_zero, List.getD_cons_succ]
      rintro h60 h59
      refine ⟨fun _ => ?_, fun hn => absurd h59 hn⟩
      exact rel_value (by simp [go_sem, h60, hk.const, hc12]) hC
    refine ob_det (c := .bool false) ?_ ?_
    · intro ρ W hk hC
      simp only [seen, obOp, List.getD_cons_zero, List.getD_cons_succ]
      rintro h59 h61
      exact rel_value (by simp [go_sem, h59, h61, hk.const]) hC
    refine ob_det (c := .bool false) ?_ ?_
    · intro ρ W hk hC
      simp only [seen, obOp, List.getD_cons_zero]
      rintro h62
      exact rel_value (by simp [go_sem, h62]) hC
    refine ob_det (c := .pointer (some ⟨w.heap.size + 1, 2, none⟩)) ?_ ?_
    · intro ρ W hk hC
      simp only [seen, obOp, List.getD_cons_zero]
      rintro h4 h63
      replace h4 : ρ (.tmp 4) = .pointer (some ⟨w.heap.size + 1, 0, none⟩) := h4.trans rfl
      refine ⟨fun _ => ?_, fun hn => absurd h63 hn⟩
      exact rel_value (by simp [go_sem, h4]) hC
    refine ob_det (c := .slice (some ⟨b, off, none⟩) len cap) ?_ ?_
    · intro ρ W hk hC
      simp only [seen, obOp, List.getD_cons_zero, List.getD_cons_succ]
      rintro h64 h63
      refine ⟨fun _ => ?_, fun hn => absurd h63 hn⟩
      exact rel_value (by simp [go_sem, h64, q2' W hC]) hC
    refine ob_det (c := .pointer (some ⟨b, off, none⟩)) ?_ ?_
    · intro ρ W hk hC
      simp only [seen, obOp, List.getD_cons_zero, List.getD_cons_succ]
      rintro h65 h63
      refine ⟨fun _ => ?_, fun hn => absurd h63 hn⟩
      exact rel_value (by simp [go_sem, h65, hk.const, hpos]) hC
    refine ob_det (c := .agg #[.int .i64 xa, .int .i64 xb, .int .i64 xc]) ?_ ?_
    · intro ρ W hk hC
      simp only [seen, obOp, List.getD_cons_zero, List.getD_cons_succ]
      rintro h66 h63
      refine ⟨fun _ => ?_, fun hn => absurd h63 hn⟩
      exact rel_value (by simp [go_sem, h66, x0 W hC, x1 W hC, x2 W hC]) hC
    refine ob_det (c := .agg #[.int .i64 xa, .int .i64 xb]) ?_ ?_
    · intro ρ W hk hC
      simp only [seen, obOp, List.getD_cons_zero, List.getD_cons_succ]
      rintro h67 h63
      refine ⟨fun _ => ?_, fun hn => absurd h63 hn⟩
      exact rel_call (f := 22) (args := #[.agg #[.int .i64 xa, .int .i64 xb, .int .i64 xc]]) (by simp [go_sem, h67, hk.func]) hC (rin_any xa xb xc W)
    refine ob_det (c := .pointer (some ⟨w.heap.size, 1, none⟩)) ?_ ?_
    · intro ρ W hk hC
      simp only [seen, obOp, List.getD_cons_zero, List.getD_cons_succ]
      rintro h3 h63
      replace h3 : ρ (.tmp 3) = .pointer (some ⟨w.heap.size, 0, none⟩) := h3.trans rfl
      refine ⟨fun _ => ?_, fun hn => absurd h63 hn⟩
      exact rel_value (by simp [go_sem, h3]) hC
    refine ob_det (c := .slice (some ⟨sb, so, none⟩) L.sigs.length p1) ?_ ?_
    · intro ρ W hk hC
      simp only [seen, obOp, List.getD_cons_zero, List.getD_cons_succ]
      rintro h69 h63
      refine ⟨fun _ => ?_, fun hn => absurd h63 hn⟩
      exact rel_value (by simp [go_sem, h69, c1 W hC]) hC
    refine ob_det (c := .pointer (some ⟨w.heap.size + 1, 0, none⟩)) ?_ ?_
    · intro ρ W hk hC
      simp only [seen, obOp, List.getD_cons_zero, List.getD_cons_succ]
      rintro h4 h63
      replace h4 : ρ (.tmp 4) = .pointer (some ⟨w.heap.size + 1, 0, none⟩) := h4.trans rfl
      refine ⟨fun _ => ?_, fun hn => absurd h63 hn⟩
      exact rel_value (by simp [go_sem, h4]) hC
    refine ob_det (c := .int .i64 (n : Nat)) ?_ ?_
    · intro ρ W hk hC
      simp only [seen, obOp, List.getD_cons_zero, List.getD_cons_succ]
      rintro h71 h63
      refine ⟨fun _ => ?_, fun hn => absurd h63 hn⟩
      exact rel_value (by simp [go_sem, h71, q0 W hC]) hC
    refine ob_det (c := .pointer (some ⟨sb, so + n * 2, none⟩)) ?_ ?_
    · intro ρ W hk hC
      simp only [seen, obOp, List.getD_cons_zero, List.getD_cons_succ]
      rintro h70 h72 h63
      refine ⟨fun _ => ?_, fun hn => absurd h63 hn⟩
      exact rel_value (by simp [go_sem, h70, h72, hsn]) hC
    refine ob_det (c := .pointer (some ⟨sb, so + n * 2, none⟩)) ?_ ?_
    · intro ρ W hk hC
      simp only [seen, obOp, List.getD_cons_zero, List.getD_cons_succ]
      rintro h73 h63
      refine ⟨fun _ => ?_, fun hn => absurd h63 hn⟩
      exact rel_value (by simp [go_sem, h73]) hC
    refine ob_det (c := .agg #[.int .i64 ss, .int .i64 sq]) ?_ ?_
    · intro ρ W hk hC
      simp only [seen, obOp, List.getD_cons_zero, List.getD_cons_succ]
      rintro h74 h63
      refine ⟨fun _ => ?_, fun hn => absurd h63 hn⟩
      exact rel_value (by simp [go_sem, h74, s0 W hC, s1 W hC]) hC
    refine ob_det (c := .bool false) ?_ ?_
    · intro ρ W hk hC
      simp only [seen, obOp, List.getD_cons_zero, List.getD_cons_succ]
      rintro h68 h75 h63
      refine ⟨fun _ => ?_, fun hn => absurd h63 hn⟩
      exact rel_value (by simp [go_sem, h68, h75, hqS]) hC
    refine ob_det (c := .bool false) ?_ ?_
    · intro ρ W hk hC
      simp only [seen, obOp, List.getD_cons_zero, List.getD_cons_succ]
      rintro h63 h76
      exact rel_value (by simp [go_sem, h63, h76, hk.const]) hC
    refine ob_det (c := .bool false) ?_ ?_
    · intro ρ W hk hC
      simp only [seen, obOp, List.getD_cons_zero]
      rintro h77
      exact rel_value (by simp [go_sem, h77]) hC
    refine ob_det (c := .pointer (some ⟨w.heap.size + 1, 2, none⟩)) ?_ ?_
    · intro ρ W hk hC
      simp only [seen, obOp, List.getD_cons_zero]
      rintro h4 h78
      replace h4 : ρ (.tmp 4) = .pointer (some ⟨w.heap.size + 1, 0, none⟩) := h4.trans rfl
      refine ⟨fun _ => ?_, fun hn => absurd h78 hn⟩
      exact rel_value (by simp [go_sem, h4]) hC
    refine ob_det (c := .slice (some ⟨b, off, none⟩) len cap) ?_ ?_
    · intro ρ W hk hC
      simp only [seen, obOp, List.getD_cons_zero, List.getD_cons_succ]
      rintro h79 h78
      refine ⟨fun _ => ?_, fun hn => absurd h78 hn⟩
      exact rel_value (by simp [go_sem, h79, q2' W hC]) hC
    refine ob_det (c := .int .i64 len) ?_ ?_
    · intro ρ W hk hC
      simp only [seen, obOp, List.getD_cons_zero, List.getD_cons_succ]
      rintro h8 h78
      replace h8 : ρ (.tmp 8) = .int .i64 len := h8.trans rfl
      refine ⟨fun _ => ?_, fun hn => absurd h78 hn⟩
      exact rel_value (by simp [go_sem, h8]) hC
    refine ob_det (c := .int .i64 (lm : Nat)) ?_ ?_
    · intro ρ W hk hC
      simp only [seen, obOp, List.getD_cons_zero, List.getD_cons_succ]
      rintro h81 h78
      refine ⟨fun _ => ?_, fun hn => absurd h78 hn⟩
      exact rel_value (by simp [go_sem, h81, hk.const, hsub, hwm]) hC
    refine ob_det (c := .pointer (some ⟨b, off + lm * 3, none⟩)) ?_ ?_
    · intro ρ W hk hC
      simp only [seen, obOp, List.getD_cons_zero, List.getD_cons_succ]
      rintro h80 h82 h78
      refine ⟨fun _ => ?_, fun hn => absurd h78 hn⟩
      exact rel_value (by simp [go_sem, h80, h82, hml]) hC
    refine ob_det (c := .agg #[.int .i64 ya, .int .i64 yb, .int .i64 yc]) ?_ ?_
    · intro ρ W hk hC
      simp only [seen, obOp, List.getD_cons_zero, List.getD_cons_succ]
      rintro h83 h78
      refine ⟨fun _ => ?_, fun hn => absurd h78 hn⟩
      exact rel_value (by simp [go_sem, h83, y0 W hC, y1 W hC, y2 W hC]) hC
    refine ob_det (c := .agg #[.int .i64 ya, .int .i64 yc]) ?_ ?_
    · intro ρ W hk hC
      simp only [seen, obOp, List.getD_cons_zero, List.getD_cons_succ]
      rintro h84 h78
      refine ⟨fun _ => ?_, fun hn => absurd h78 hn⟩
      exact rel_call (f := 23) (args := #[.agg #[.int .i64 ya, .int .i64 yb, .int .i64 yc]]) (by simp [go_sem, h84, hk.func]) hC (rout_any ya yb yc W)
    refine ob_det (c := .pointer (some ⟨w.heap.size + 1 + 1, 0, none⟩)) ?_ ?_
    · intro ρ W hk hC
      simp only [seen, obOp, List.getD_cons_zero, List.getD_cons_succ]
      rintro h7 h78
      replace h7 : ρ (.tmp 7) = .pointer (some ⟨w.heap.size + 1 + 1, 0, none⟩) := h7.trans rfl
      refine ⟨fun _ => ?_, fun hn => absurd h78 hn⟩
      exact rel_value (by simp [go_sem, h7]) hC
    refine ob_det (c := .agg #[.int .i64 es, .int .i64 ep]) ?_ ?_
    · intro ρ W hk hC
      simp only [seen, obOp, List.getD_cons_zero, List.getD_cons_succ]
      rintro h86 h78
      refine ⟨fun _ => ?_, fun hn => absurd h78 hn⟩
      exact rel_value (by simp [go_sem, h86, e0 W hC, e1 W hC]) hC
    refine ob_det (c := .bool false) ?_ ?_
    · intro ρ W hk hC
      simp only [seen, obOp, List.getD_cons_zero, List.getD_cons_succ]
      rintro h85 h87 h78
      refine ⟨fun _ => ?_, fun hn => absurd h78 hn⟩
      exact rel_value (by simp [go_sem, h85, h87, hqE]) hC
    refine ob_det (c := .bool false) ?_ ?_
    · intro ρ W hk hC
      simp only [seen, obOp, List.getD_cons_zero, List.getD_cons_succ]
      rintro h78 h88
      exact rel_value (by simp [go_sem, h78, h88, hk.const]) hC
    intro vs5 w5 hC5
    simp only [endSeen, List.getD_cons_zero]
    intro h89
    simp only [writeAll, List.setIfInBounds_toArray, List.set_cons_zero, List.set_cons_succ, h89]
    have hB5 := bchain HU.out.1 hC5
    have hb5 := HU.out.2.1.below hC5
    obtain ⟨cc, cf, cl⟩ := bcell hC5
    have m1 := HU.out.2.2.2.2.2.2.2.2.1
    have m2 := HU.out.2.2.2.2.2.2.2.2.2.1
    have t0 := (cc (w.heap.size + 1) 0 m1).trans HU.out.2.2.1
    have t1 := (cc (w.heap.size + 1) 1 m1).trans HU.out.2.2.2.1
    have t2 := (cc (w.heap.size + 1) 2 m1).trans HU.out.2.2.2.2.1
    have e2 := (cc (w.heap.size + 1 + 1) 2 m2).trans HU.out.2.2.2.2.2.2.2.1
    have lm1 := cl _ m1
    have lm2 := cl _ m2
    have HBB := Lib.hid (⟨hB5, hb5, t0, t1, t2, e2, lm1, lm2⟩ : _ ∧ _ ∧ _ ∧ _ ∧ _ ∧ _ ∧ _ ∧ _)
    have HLE := Lib.hid HSE.out.2.2.2
    have hcon : ∀ W g, Below w5.heap.size w5 W → g < W.heap.size → W.cell? ⟨g, 0, none⟩ = some (.slice (some ⟨b, off, none⟩) len cap) → W.cell? ⟨g, 1, none⟩ = some (.slice oA ol oc) → Calls Tryz.prog 25 #[.slice (some ⟨g, 0, none⟩) 2 2] W fun e w' => ∃ v, e = .returned v ∧ Below W.heap.size W w' ∧ Sl w' 3 Stp.enc v (xs ++ ov) := fun W g hW hg h0 h1 =>
      concat_any g _ oA cap oc xs ov W (HA.out.1.below (bchain HBB.out.1 hW)) (HOV.out.1.below (bchain HBB.out.1 hW)) (by rw [← HLE.out]; exact hx) (by rw [← HOV.out.2.2.1]; exact holen) hg (by rw [← HLE.out]; exact h0) (by rw [← HOV.out.2.2.1]; exact h1)
    have HCON := Lib.hid hcon
    obtain ⟨c0, c1', c2, c3, c4, c5, c6, c7, c8, c9, c10⟩ := hb5.cells
    have lg := hb5.1
    dsimp only at c0 c1' c2 c3
    clear hcon hB5 hb5 cc cf cl m1 m2 q0 q2' c1 x0 x1 x2 y0 y1 y2 s0 s1 e0 e1 hqS hqE hsub hwm h89 hc1 hc12 hlm hml hpos
    go_wp2_with fail
    (with_reducible refine (HGO.out w5 HBB.out.1).mono ?_)
    rintro e w6 ⟨rfl, b6⟩
    have HB6 := Lib.hid b6
    clear b6 c0 c1' c2 c3 c4 c5 c6 c7 c8 c9 c10 t0 t1 t2 e2 lg lm1 lm2
    cases qg with
    | false =>
      obtain rfl : r = 110 := HRR.out.1 fun h => absurd (HQ.out.2.2.1.trans h.2.2.2.1) (by simp)
      go_wp2_with fail
      refine wp_goto ?_
      refine ⟨rfl, ?_⟩
      go_wp2
      rw [Exit.noGoto_ret]
      exact ⟨⟨[], Marked.nil _ _⟩, fun w' hb hk => ⟨.int .i64 110, by simp [results, Tryz.results6, go_sem], rfl, (bchain HBB.out.1 HB6.out).trans hb⟩⟩
    | true =>
    have t0 := (HB6.out.cell (p := ⟨w.heap.size + 1, 0, none⟩) HBB.out.2.2.2.2.2.2.1).trans HBB.out.2.2.1
    have t1 := (HB6.out.cell (p := ⟨w.heap.size + 1, 1, none⟩) HBB.out.2.2.2.2.2.2.1).trans HBB.out.2.2.2.1
    have t2 := (HB6.out.cell (p := ⟨w.heap.size + 1, 2, none⟩) HBB.out.2.2.2.2.2.2.1).trans HBB.out.2.2.2.2.1
    have lm1 := Nat.lt_of_lt_of_le HBB.out.2.2.2.2.2.2.1 HB6.out.size
    go_wp2_with fail
    (with_reducible refine (HTH.out w6 (bchain HBB.out.1 HB6.out)).mono ?_)
    rintro e w7 ⟨rfl, b7⟩
    have HB7 := Lib.hid (bchain HB6.out b7)
    clear b7 t0 t1 t2 lm1
    cases qh with
    | false =>
      obtain rfl : r = 110 := HRR.out.1 fun h => absurd (HQ.out.2.2.2.1.trans h.2.2.2.2.1) (by simp)
      go_wp2_with fail
      refine wp_goto ?_
      refine ⟨rfl, ?_⟩
      go_wp2
      rw [Exit.noGoto_ret]
      exact ⟨⟨[], Marked.nil _ _⟩, fun w' hb hk => ⟨.int .i64 110, by simp [results, Tryz.results6, go_sem], rfl, (bchain HBB.out.1 HB7.out).trans hb⟩⟩
    | true =>
    have t2 := (HB7.out.cell (p := ⟨w.heap.size + 1, 2, none⟩) HBB.out.2.2.2.2.2.2.1).trans HBB.out.2.2.2.2.1
    have e2 := (HB7.out.cell (p := ⟨w.heap.size + 1 + 1, 2, none⟩) HBB.out.2.2.2.2.2.2.2).trans HBB.out.2.2.2.2.2.1
    have lm1 := Nat.lt_of_lt_of_le HBB.out.2.2.2.2.2.2.1 HB7.out.size
    have lm2 := Nat.lt_of_lt_of_le HBB.out.2.2.2.2.2.2.2 HB7.out.size
    go_wp2_with fail
    (with_reducible refine (HCON.out _ w7.heap.size (bchain HB7.out bself) (by simp) (by simp [go_sem]) (by simp [go_sem])).mono ?_)
    rintro e w8 ⟨v, rfl, b8, B, bc, rfl, hbl, hbm, hBA⟩
    have HB8 := Lib.hid (bchain HB7.out (bnew b8))
    have htw := twiceR_any B bc (xs ++ ov) w8 hBA hbl hbm
    rw [twice_append HOV.out.2.1] at htw
    obtain ⟨cl, hcl⟩ : ∃ cl, cl = (xs ++ ov).length := ⟨_, rfl⟩
    obtain ⟨qs, hqs⟩ : ∃ qs, qs = simpleL xs ov := ⟨_, rfl⟩
    rw [← hcl, ← hqs] at htw
    rw [← hcl]
    have HTW := Lib.hid htw
    have HQS := Lib.hid hqs
    clear b8 hbl hbm hBA htw hcl hqs t2 e2 lm1 lm2
    go_wp2_with fail
    (with_reducible refine HTW.out.mono ?_)
    rintro e w9 ⟨rfl, b9⟩
    have HB9 := Lib.hid (bchain HB8.out b9)
    clear b9
    cases qs with
    | false =>
      obtain rfl : r = 110 := HRR.out.1 fun h => absurd (HQS.out.trans h.2.2.2.2.2.1) (by simp)
      go_wp2_with fail
      refine wp_goto ?_
      refine ⟨rfl, ?_⟩
      go_wp2
      rw [Exit.noGoto_ret]
      exact ⟨⟨[], Marked.nil _ _⟩, fun w' hb hk => ⟨.int .i64 110, by simp [results, Tryz.results6, go_sem], rfl, (bchain HBB.out.1 HB9.out).trans hb⟩⟩
    | true =>
    have t2 := (HB9.out.cell (p := ⟨w.heap.size + 1, 2, none⟩) HBB.out.2.2.2.2.2.2.1).trans HBB.out.2.2.2.2.1
    have lm1 := Nat.lt_of_lt_of_le HBB.out.2.2.2.2.2.2.1 HB9.out.size
    go_wp2_with fail
    (with_reducible refine (HPR.out w9).mono ?_)
    rintro e w10 ⟨rfl, rfl⟩
    clear t2 lm1
    go_wp2_with fail
    have hBV : Below w9.heap.size w9 (w9.alloc (.cells #[.slice (some ⟨b, off, none⟩) len cap] 30)) := bself
    have csV : (w9.alloc (.cells #[.slice (some ⟨b, off, none⟩) len cap] 30)).cell? ⟨w9.heap.size, 0, none⟩ = some (.slice (some ⟨b, off, none⟩) len cap) := by simp [go_sem]
    generalize w9.alloc (.cells #[.slice (some ⟨b, off, none⟩) len cap] 30) = V2 at hBV csV ⊢
    have h5V := bchain HB9.out hBV
    have hwV := bchain HBB.out.1 h5V
    have hBXV := HBB.out.2.1.below h5V
    have lwV : w.heap.size ≤ V2.heap.size := hwV.size
    have HSQ := Lib.hid (pairs_stops w9.heap.size (some ⟨b, off, none⟩) cap xs V2 (HA.out.1.below hwV) (by rw [← HLE.out]; exact mlen) (by rw [← HLE.out]; exact csV))
    have HV := Lib.hid (⟨hwV, hBXV⟩ : _ ∧ _)
    clear hBV csV h5V hwV hBXV
    refine wp_act fun T hT => ?_
    refine wp_range_x (α := Nat) (gf := 44) (lb := #[.pointer (some ⟨w9.heap.size, 0, none⟩)]) (encs := pairV xs) (by rw [hT]; rfl) (enters_of Tryz.func44 (by kernel_rfl) rfl) (fun _ => False) (fun _ h => h.elim) HSQ.out (fun _ => rfl)
      (fun pre => ∀ k ∈ pre, noSig L xs k = true) (fun c pre _ => SX L xs c pre) (fun _ _ _ _ h _ => h) (fun _ h => by cases h)
      (CAx T xs) (fun _ _ _ _ h k hs => h.same k hs) ?assign ?body ?done ?stop
    case assign =>
      intro l k W Kn hb hK
      subst hT
      simp only [pairV, stpV]
      obtain ⟨x, hx⟩ : ∃ x, x = xs.getD (k - 1) default := ⟨_, rfl⟩
      obtain ⟨y, hy⟩ : ∃ y, y = xs.getD k default := ⟨_, rfl⟩
      rw [← hx, ← hy]
      have HXY2 := Lib.hid (⟨hx, hy⟩ : _ ∧ _)
      clear hx hy
      gi_wp2
      refine hK _ _ bself ⟨W.heap.size, ?_, ?_⟩
      · dsimp only [stpV]
        rw [← HXY2.out.1, ← HXY2.out.2]
        simp only [List.setIfInBounds_toArray, List.set_cons_zero, List.set_cons_succ]
      · rw [← HXY2.out.2]
        exact row_one (by simp) (by simp [go_sem]) (by simp [go_sem]) (by simp [go_sem])
    case body =>
      rintro l pre k a' W hb hi ⟨b10, rfl, r6⟩ hlen
      subst hT
      have HI := Lib.hid hi
      have HBX := Lib.hid (HV.out.2.below hb)
      have HWB := Lib.hid (bchain HV.out.1 hb)
      have hlk : noSig L xs k = decide (sigIx L (xs.getD k default).s (xs.getD k default).i < 0) := rfl
      unfold stpV
      generalize xs.getD (k - 1) default = x at ⊢
      generalize xs.getD k default = y at r6 hlk ⊢
      obtain ⟨ya, yb, yc⟩ := y
      have l6 := r6.1
      have y0 : ∀ V', ClB W V' → V'.cell? ⟨b10, 0, none⟩ = some (.int .i64 ya) := fun V' h => (h.cell (p := ⟨b10, 0, none⟩) l6).trans (r6.2 0 _ rfl 0 _ rfl)
      have y1 : ∀ V', ClB W V' → V'.cell? ⟨b10, 1, none⟩ = some (.int .i64 yb) := fun V' h => (h.cell (p := ⟨b10, 1, none⟩) l6).trans (r6.2 0 _ rfl 1 _ rfl)
      have y2 : ∀ V', ClB W V' → V'.cell? ⟨b10, 2, none⟩ = some (.int .i64 yc) := fun V' h => (h.cell (p := ⟨b10, 2, none⟩) l6).trans (r6.2 0 _ rfl 2 _ rfl)
      have hsg := fun V' (h : ClB W V') => HSIG.out ya yb V' (bchain HWB.out h)
      dsimp only at hlk ⊢
      simp only [List.setIfInBounds_toArray, List.set_cons_zero, List.set_cons_succ]
      clear hi hb r6
      refine wpIn_block ?_
      refine wpIn_seq_k fun K1 hK1 => ?_
      have HK1 := Lib.hid hK1
      clear hK1
      generalize sigIx L ya yb = z at hsg hlk
      have HSG := Lib.hid hsg
      clear hsg
      by_cases hz : z < 0
      · have HJB := Lib.hid (hlk.trans (decide_eq_true hz))
        have dz : ¬ (0 ≤ z) := by omega
        clear hlk hz
        focus
          refine wpIn_region_rel_below (.inr ⟨l, rfl⟩) [([(3, none)], none), ([(10, none)], none), ([(116, some 0)], none), ([(115, some 2), (117, some 0)], none), ([(118, some 0)], none)] [(0, 119)] (by kernel_rfl) (by kernel_rfl) (by kernel_rfl) ?_
          refine ob_det (c := .agg #[.slice a0 L.secs.length p0, .slice (some ⟨sb, so, none⟩) L.sigs.length p1, .slice (some ⟨eb, eo, none⟩) L.exits.length p2, .slice a3 L.flanks.length p3, .int .i64 L.t0, .int .i64 L.t1, .int .i64 L.t2, .int .i64 L.t3, .int .i64 L.t4, .int .i64 L.t5, .int .i64 L.t6]) ?_ ?_
          · intro ρ W hk hC
            simp only [seen, obOp]
            rintro h3
            replace h3 : ρ (.tmp 3) = .pointer (some ⟨w.heap.size, 0, none⟩) := h3.trans rfl
            exact rel_value (runLoad h3 (HBX.out.below hC)) hC
          refine ob_det (c := .agg #[.int .i64 ya, .int .i64 yb, .int .i64 yc]) ?_ ?_
          · intro ρ W hk hC
            simp only [seen, obOp]
            rintro h10
            replace h10 : ρ (.tmp 10) = .pointer (some ⟨b10, 0, none⟩) := h10.trans rfl
            exact rel_value (by simp [go_sem, h10, y0 W hC, y1 W hC, y2 W hC]) hC
          refine ob_det (c := .agg #[.int .i64 ya, .int .i64 yb]) ?_ ?_
          · intro ρ W hk hC
            simp only [seen, obOp, List.getD_cons_zero]
            rintro h116
            exact rel_call (f := 22) (args := #[.agg #[.int .i64 ya, .int .i64 yb, .int .i64 yc]]) (by simp [go_sem, h116, hk.func]) hC (rin_any ya yb yc W)
          refine ob_det (c := .int .i64 z) ?_ ?_
          · intro ρ W hk hC
            simp only [seen, obOp, List.getD_cons_zero, List.getD_cons_succ]
            rintro h115 h117
            exact rel_call (f := 27) (args := #[.agg #[.slice a0 L.secs.length p0, .slice (some ⟨sb, so, none⟩) L.sigs.length p1, .slice (some ⟨eb, eo, none⟩) L.exits.length p2, .slice a3 L.flanks.length p3, .int .i64 L.t0, .int .i64 L.t1, .int .i64 L.t2, .int .i64 L.t3, .int .i64 L.t4, .int .i64 L.t5, .int .i64 L.t6], .agg #[.int .i64 ya, .int .i64 yb]]) (by simp [go_sem, h115, h117, hk.func]) hC (HSG.out W hC)
          refine ob_det (c := .bool false) ?_ ?_
          · intro ρ W hk hC
            simp only [seen, obOp, List.getD_cons_zero]
            rintro h118
            exact rel_value (by simp [go_sem, h118, hk.const, dz]) hC
          intro vs5 w11 hC11
          simp only [endSeen, List.getD_cons_zero]
          intro h119
          simp only [writeAll, List.setIfInBounds_toArray, List.set_cons_zero, List.set_cons_succ, h119]
          refine HK1.out _ _ ?_
          gi_wp2
          refine ⟨hC11, fun t ht => ?_⟩
          rcases List.mem_append.1 ht with ht | ht
          · exact HI.out t ht
          · rw [List.mem_singleton.1 ht]; exact HJB.out
      · have HJB := Lib.hid (hlk.trans (decide_eq_false hz))
        have dz : 0 ≤ z := by omega
        clear hlk hz
        focus
          refine wpIn_region_rel_below (.inr ⟨l, rfl⟩) [([(3, none)], none), ([(10, none)], none), ([(116, some 0)], none), ([(115, some 2), (117, some 0)], none), ([(118, some 0)], none)] [(0, 119)] (by kernel_rfl) (by kernel_rfl) (by kernel_rfl) ?_
          refine ob_det (c := .agg #[.slice a0 L.secs.length p0, .slice (some ⟨sb, so, none⟩) L.sigs.length p1, .slice (some ⟨eb, eo, none⟩) L.exits.length p2, .slice a3 L.flanks.length p3, .int .i64 L.t0, .int .i64 L.t1, .int .i64 L.t2, .int .i64 L.t3, .int .i64 L.t4, .int .i64 L.t5, .int .i64 L.t6]) ?_ ?_
          · intro ρ W hk hC
            simp only [seen, obOp]
            rintro h3
            replace h3 : ρ (.tmp 3) = .pointer (some ⟨w.heap.size, 0, none⟩) := h3.trans rfl
            exact rel_value (runLoad h3 (HBX.out.below hC)) hC
          refine ob_det (c := .agg #[.int .i64 ya, .int .i64 yb, .int .i64 yc]) ?_ ?_
          · intro ρ W hk hC
            simp only [seen, obOp]
            rintro h10
            replace h10 : ρ (.tmp 10) = .pointer (some ⟨b10, 0, none⟩) := h10.trans rfl
            exact rel_value (by simp [go_sem, h10, y0 W hC, y1 W hC, y2 W hC]) hC
          refine ob_det (c := .agg #[.int .i64 ya, .int .i64 yb]) ?_ ?_
          · intro ρ W hk hC
            simp only [seen, obOp, List.getD_cons_zero]
            rintro h116
            exact rel_call (f := 22) (args := #[.agg #[.int .i64 ya, .int .i64 yb, .int .i64 yc]]) (by simp [go_sem, h116, hk.func]) hC (rin_any ya yb yc W)
          refine ob_det (c := .int .i64 z) ?_ ?_
          · intro ρ W hk hC
            simp only [seen, obOp, List.getD_cons_zero, List.getD_cons_succ]
            rintro h115 h117
            exact rel_call (f := 27) (args := #[.agg #[.slice a0 L.secs.length p0, .slice (some ⟨sb, so, none⟩) L.sigs.length p1, .slice (some ⟨eb, eo, none⟩) L.exits.length p2, .slice a3 L.flanks.length p3, .int .i64 L.t0, .int .i64 L.t1, .int .i64 L.t2, .int .i64 L.t3, .int .i64 L.t4, .int .i64 L.t5, .int .i64 L.t6], .agg #[.int .i64 ya, .int .i64 yb]]) (by simp [go_sem, h115, h117, hk.func]) hC (HSG.out W hC)
          refine ob_det (c := .bool true) ?_ ?_
          · intro ρ W hk hC
            simp only [seen, obOp, List.getD_cons_zero]
            rintro h118
            exact rel_value (by simp [go_sem, h118, hk.const, dz]) hC
          intro vs5 w11 hC11
          simp only [endSeen, List.getD_cons_zero]
          intro h119
          simp only [writeAll, List.setIfInBounds_toArray, List.set_cons_zero, List.set_cons_succ, h119]
          refine HK1.out _ _ ?_
          gi_wp2
          refine wpIn_goto ?_
          exact ⟨Writes.of_below hC11, rfl, k, by simp, HJB.out⟩
    case done =>
      rintro D ys W hD rfl hw hi hK
      have hro : RouteOk L ⟨ss, sq⟩ ⟨es, ep, ov⟩ xs vs := by
        refine ⟨⟨?_, ?_⟩, fun x h => ?_, fun x h => ?_, HQ.out.2.2.1.symm, HQ.out.2.2.2.1.symm, HQS.out.symm, noSig_all hi⟩
        · rw [← HLE.out, HSE.out.2.2.1]; omega
        · rw [← HLE.out]; omega
        · rw [HXY.out.1] at h
          cases h
          rw [HSE.out.1.1, HSE.out.1.2]
        · rw [← HLE.out, HSE.out.2.2.1, Nat.add_sub_cancel, HXY.out.2] at h
          cases h
          rw [HSE.out.2.1.1, HSE.out.2.1.2]
      obtain rfl : r = 0 := HRR.out.2 hro
      have hwW := bchain HV.out.1 hw
      have hmD := (Marked.nil w.heap.size W).cons (Nat.le_trans lwV hD) (fun D' h' => by cases h') hK
      have HDN := Lib.hid (⟨hmD, hwW⟩ : _ ∧ _)
      clear hmD hw hi hK hro
      subst hT
      dsimp only
      go_wp2_with fail
      rw [Exit.fwd_ret]
      exact ⟨⟨_, HDN.out.1⟩, fun w' hb hk => ⟨.int .i64 0, by simp [results, Tryz.results6, go_sem], rfl, HDN.out.2.trans hb⟩⟩
    case stop =>
      rintro D cd pre W hD hS hw ⟨rfl, k, hk, hf⟩ hK
      obtain rfl : r = 110 := HRR.out.1 fun h => noSig_no (hS.subset hk) hf h.2.2.2.2.2.2
      have hmD := (Marked.nil w.heap.size W).cons (Nat.le_trans lwV hD) (fun D' h' => by cases h') hK
      have hbw : Below w.heap.size w W := hw.below HV.out.1 lwV (fun _ h => h.elim)
      subst hT
      dsimp only
      refine wp_goto ?_
      refine ⟨rfl, ?_⟩
      go_wp2
      try rw [Exit.noGoto_ret]
      exact ⟨⟨_, hmD⟩, fun w' hb hk => ⟨.int .i64 110, by simp [results, Tryz.results6, go_sem], rfl, hbw.trans hb⟩⟩

/-- Is it a Route path? -/
theorem ris_any (L : Lay) (P : Where) (sg ex : Int) (A V : Option Addr) (cap vcap : Nat) (xs : List Stp) (vs : List Int) (w : World) (hL : LayAt w P L) (K : Kinds w) (E : JEnd w) (hA : At w 3 Stp.enc A xs) (hl : xs.length ≤ cap) (hm : cap ≤ 9223372036854775807) (hx : xs.length ≤ 1000)
    (hV : At w 1 intEnc V vs) (hv : vs.length ≤ vcap) (hvm : vcap ≤ 9223372036854775807) :
    Calls Tryz.prog 8 #[L.val P, .agg #[.int .i64 sg, .int .i64 ex, .slice A xs.length cap], .slice V vs.length vcap] w fun e w' => e = .returned (.bool (decide (routeN L sg ex xs vs = 0))) ∧ Below w.heap.size w w' := by
  have hc := fun X (hX : Below w.heap.size w X) => rcheck_any L P sg ex A V cap vcap xs vs X (hL.below hX) (K.below hX) (E.below hX) (hA.below hX) hl hm hx (hV.below hX) hv hvm
  generalize routeN L sg ex xs vs = r at hc ⊢
  obtain ⟨len, hlen⟩ : ∃ len, len = xs.length := ⟨_, rfl⟩
  obtain ⟨vn, hvn⟩ : ∃ vn, vn = vs.length := ⟨_, rfl⟩
  rw [← hlen, ← hvn] at hc
  rw [← hlen, ← hvn]
  obtain ⟨a0, a1, a2, a3, p0, p1, p2, p3⟩ := P
  unfold Lay.val at hc ⊢
  have HC := Lib.hid hc
  clear hc hL K E hA hl hm hx hV hv hvm hlen hvn
  go_enter Tryz.func8, Tryz.ntmps8
  go_wp2_with fail
  (with_reducible refine (HC.out _ (bchain bself bself)).mono ?_)
  rintro e w1 ⟨rfl, b1⟩
  have HB1 := Lib.hid (bnew (bnew b1))
  clear b1
  go_wp2
  go_ret
  exact ⟨by first | rfl | (apply ret_bool; rw [Bool.eq_iff_iff]; simp), HB1.out⟩
end Go.Proofs.YtpcojaoeahdgcaaGreatDoor

/-
  lockbarlaw09.one, wakes.
-/
namespace Go.Proofs.YtpcojaoeahdgcaaGreatDoor
open Go.RowKit Go.Shelf

def oneL : Lay := ⟨[⟨1, -1, 0, -1, 0, -1, 0, -1, 0, 0, 0⟩], [], [⟨0, 1, []⟩], [], 1, 1, 1, 1, 1, 1, 1⟩
def twoL : Lay := ⟨[⟨1, -1, 0, -1, 0, -1, 0, -1, 0, 0, 0⟩], [⟨0, 0⟩, ⟨0, 0⟩], [⟨0, 1, []⟩], [], 1, 1, 1, 1, 1, 1, 1⟩
def ovrL : Lay := ⟨[⟨1, -1, 0, -1, 0, -1, 0, -1, 0, 0, 0⟩], [], [⟨0, 1, [⟨0, 0, 1⟩]⟩], [], 1, 1, 1, 1, 1, 1, 1⟩
def oneP (n : Nat) : Where := ⟨some ⟨n, 0, none⟩, none, some ⟨n + 1, 0, none⟩, none, 1, 0, 1, 0⟩
def twoP (n g : Nat) : Where := ⟨some ⟨n, 0, none⟩, some ⟨g, 0, none⟩, some ⟨n + 1, 0, none⟩, none, 1, 2, 1, 0⟩
/-- The cells of one's blocks, from block n on. -/
structure OneAt (W : World) (n : Nat) : Prop where
  lt : n + 1 < W.heap.size
  secs : RowAt' W 11 Sec.enc n 0 oneL.secs
  exits : RowAt' W 3 Ext'.enc (n + 1) 0 [(⟨0, 1, []⟩, .slice none 0 0)]
theorem OneAt.below {W W' : World} {n : Nat} (h : OneAt W n) (hb : Below W.heap.size W W') : OneAt W' n :=
  ⟨Nat.lt_of_lt_of_le h.lt hb.size, h.secs.below hb, h.exits.below hb⟩
theorem OneAt.set {W : World} {n g o : Nat} {u : Value} (h : OneAt W n) (hg : n + 1 < g) : OneAt (W.setCell ⟨g, o, none⟩ u) n :=
  ⟨by simpa [World.setCell] using h.lt, h.secs.set (by omega), h.exits.set (by omega)⟩
theorem OneAt.lay {W : World} {n : Nat} (h : OneAt W n) : LayAt W (oneP n) oneL := by
  refine ⟨.inr ⟨_, _, rfl, h.secs⟩, .inl rfl, ⟨_, rfl, .inr ⟨_, _, rfl, h.exits⟩, fun e he => ?_⟩, .inl rfl, by simp [oneL, oneP], by simp [oneL, oneP], by simp [oneL, oneP], by simp [oneL, oneP], by simp [oneL]⟩
  simp only [List.mem_cons, List.not_mem_nil, or_false] at he
  subst he
  exact ⟨_, _, rfl, by simp, by unfold maxLen; omega, .inl rfl⟩
/-- With two signals. -/
theorem OneAt.two {W : World} {n g : Nat} (h : OneAt W n) (hs : RowAt' W 2 Prt.enc g 0 twoL.sigs) : LayAt W (twoP n g) twoL := by
  refine ⟨.inr ⟨_, _, rfl, h.secs⟩, .inr ⟨_, _, rfl, hs⟩, ⟨_, rfl, .inr ⟨_, _, rfl, h.exits⟩, fun e he => ?_⟩, .inl rfl, by simp [twoL, twoP], by simp [twoL, twoP], by simp [twoL, twoP], by simp [twoL, twoP], by simp [twoL]⟩
  simp only [List.mem_cons, List.not_mem_nil, or_false] at he
  subst he
  exact ⟨_, _, rfl, by simp, by unfold maxLen; omega, .inl rfl⟩
/-- With an overlap. -/
theorem ovr_lay {W : World} {n g : Nat} (hs : RowAt' W 11 Sec.enc n 0 ovrL.secs) (he0 : RowAt' W 3 Ext'.enc (n + 1) 0 [(⟨0, 1, [⟨0, 0, 1⟩]⟩, .slice (some ⟨g, 0, none⟩) 1 1)]) (ho : RowAt' W 3 Stp.enc g 0 [⟨0, 0, 1⟩]) : LayAt W (oneP n) ovrL := by
  refine ⟨.inr ⟨_, _, rfl, hs⟩, .inl rfl, ⟨_, rfl, .inr ⟨_, _, rfl, he0⟩, fun e he => ?_⟩, .inl rfl, by simp [ovrL, oneP], by simp [ovrL, oneP], by simp [ovrL, oneP], by simp [ovrL, oneP], by simp [ovrL]⟩
  simp only [List.mem_cons, List.not_mem_nil, or_false] at he
  subst he
  exact ⟨_, _, rfl, by simp, by unfold maxLen; omega, .inr ⟨_, _, rfl, ho⟩⟩

theorem checks : checkL oneL = (0, 0, 0) ∧ checkL twoL = (2, 1, 90) ∧ checkL ovrL = (4, 0, 90) ∧ checkL zeroL = (0, 0, 60) := by decide +kernel
theorem topos : topoR oneL = true ∧ topoR twoL = false ∧ overX oneL 0 = true ∧ overX oneL 1 = false ∧ overX ovrL 0 = false := by decide +kernel

theorem one_cells {W : World} {g m : Nat} (h : BoxL W g oneL (oneP m)) : W.cell? ⟨g, 0, none⟩ = some (.slice (some ⟨m, 0, none⟩) 1 1) ∧ W.cell? ⟨g, 1, none⟩ = some (.slice none 0 0) ∧ W.cell? ⟨g, 2, none⟩ = some (.slice (some ⟨m + 1, 0, none⟩) 1 1) ∧ W.cell? ⟨g, 3, none⟩ = some (.slice none 0 0) ∧ W.cell? ⟨g, 4, none⟩ = some (.int .i64 1) ∧ W.cell? ⟨g, 5, none⟩ = some (.int .i64 1) ∧ W.cell? ⟨g, 6, none⟩ = some (.int .i64 1) ∧ W.cell? ⟨g, 7, none⟩ = some (.int .i64 1) ∧ W.cell? ⟨g, 8, none⟩ = some (.int .i64 1) ∧ W.cell? ⟨g, 9, none⟩ = some (.int .i64 1) ∧ W.cell? ⟨g, 10, none⟩ = some (.int .i64 1) :=
  ⟨h.2 0 _ rfl, h.2 1 _ rfl, h.2 2 _ rfl, h.2 3 _ rfl, h.2 4 _ rfl, h.2 5 _ rfl, h.2 6 _ rfl, h.2 7 _ rfl, h.2 8 _ rfl, h.2 9 _ rfl, h.2 10 _ rfl⟩
theorem two_cells {W : World} {g m s : Nat} (h : BoxL W g twoL (twoP m s)) : W.cell? ⟨g, 0, none⟩ = some (.slice (some ⟨m, 0, none⟩) 1 1) ∧ W.cell? ⟨g, 1, none⟩ = some (.slice (some ⟨s, 0, none⟩) 2 2) ∧ W.cell? ⟨g, 2, none⟩ = some (.slice (some ⟨m + 1, 0, none⟩) 1 1) ∧ W.cell? ⟨g, 3, none⟩ = some (.slice none 0 0) ∧ W.cell? ⟨g, 4, none⟩ = some (.int .i64 1) ∧ W.cell? ⟨g, 5, none⟩ = some (.int .i64 1) ∧ W.cell? ⟨g, 6, none⟩ = some (.int .i64 1) ∧ W.cell? ⟨g, 7, none⟩ = some (.int .i64 1) ∧ W.cell? ⟨g, 8, none⟩ = some (.int .i64 1) ∧ W.cell? ⟨g, 9, none⟩ = some (.int .i64 1) ∧ W.cell? ⟨g, 10, none⟩ = some (.int .i64 1) :=
  ⟨h.2 0 _ rfl, h.2 1 _ rfl, h.2 2 _ rfl, h.2 3 _ rfl, h.2 4 _ rfl, h.2 5 _ rfl, h.2 6 _ rfl, h.2 7 _ rfl, h.2 8 _ rfl, h.2 9 _ rfl, h.2 10 _ rfl⟩
end Go.Proofs.YtpcojaoeahdgcaaGreatDoor

/-
  lockbarref09.signals, exits, flanks: the first that is as one ahead.
-/
namespace Go.Proofs.YtpcojaoeahdgcaaGreatDoor
open Go.RowKit Go.Shelf

theorem dups_nil {P : Nat → Nat → Bool} : ∀ {k : Nat}, (∀ j, j < k → dupAt P j = false) → dups P k = []
  | 0, _ => rfl
  | k + 1, h => by
    unfold dups
    rw [dups_nil (k := k) (fun j hj => h j (by omega)), h k (by omega)]
    rfl
theorem firstDup_at {P : Nat → Nat → Bool} {n k : Nat} (hk : k < n) (h : ∀ j, j < k → dupAt P j = false) (hd : dupAt P k = true) : firstDup P n = k := by
  refine firstDup_some ?_
  have e : dups P (k + 1) = [k] := by
    unfold dups
    rw [dups_nil h, hd]
    rfl
  rw [← e]
  exact dups_pre hk
theorem firstDup_no {P : Nat → Nat → Bool} {n : Nat} (h : ∀ j, j < n → dupAt P j = false) : firstDup P n = -1 := firstDup_none (dups_nil h)
theorem dupAt_hit {P : Nat → Nat → Bool} {i k : Nat} (hi : i < k) (h : P i k = true) : dupAt P k = true := by
  unfold dupAt
  rw [List.any_eq_true]
  exact ⟨i, List.mem_range.2 hi, h⟩
theorem dupAt_miss {P : Nat → Nat → Bool} {k : Nat} (h : ∀ j, j < k → P j k = false) : dupAt P k = false := by
  unfold dupAt
  rw [List.any_eq_false]
  intro j hj
  rw [h j (List.mem_range.1 hj)]
  simp

set_option maxRecDepth 100000 in
set_option maxHeartbeats 8000000 in
theorem rsignals_any (L : Lay) (P : Where) (w : World) (hL : LayAt w P L) :
    Calls Tryz.prog 59 #[L.val P] w fun e w' => e = .returned (.int .i64 (firstDup (sigP L) L.sigs.length)) ∧ Below w.heap.size w w' := by
  have m1 : L.sigs.length ≤ 9223372036854775807 := Nat.le_trans hL.l1.1 hL.l1.2
  obtain ⟨a0, a1, a2, a3, p0, p1, p2, p3⟩ := P
  have HL := Lib.hid hL
  clear hL
  unfold Lay.val
  go_enter Tryz.func59, Tryz.ntmps59
  go_wp2_with fail
  obtain ⟨X, hX⟩ : ∃ X, X = w.alloc (.cells #[.slice a0 L.secs.length p0, .slice a1 L.sigs.length p1, .slice a2 L.exits.length p2, .slice a3 L.flanks.length p3, .int .i64 L.t0, .int .i64 L.t1, .int .i64 L.t2, .int .i64 L.t3, .int .i64 L.t4, .int .i64 L.t5, .int .i64 L.t6] 29) := ⟨_, rfl⟩
  have hBX : Below w.heap.size w X := by rw [hX]; exact bself
  have hBL : BoxL X w.heap.size L ⟨a0, a1, a2, a3, p0, p1, p2, p3⟩ := by rw [hX]; exact BoxL.make (L := L) (p := ⟨a0, a1, a2, a3, p0, p1, p2, p3⟩) _ rfl
  rw [← hX]
  have HX := Lib.hid (⟨hBX, hBL⟩ : _ ∧ _)
  clear hX hBX hBL
  go_loopw [3] (fun c wr => ∃ k : Nat, k ≤ L.sigs.length ∧ c = .int .i64 k ∧ Hid (Below w.heap.size w wr) ∧ Hid (Below X.heap.size X wr) ∧ Hid (∀ j, j < k → dupAt (sigP L) j = false)) (fun c _ => L.sigs.length - (intOf c).toNat)
  case atStart => exact ⟨0, Nat.zero_le _, rfl, Lib.hid HX.out.1, Lib.hid (Below.refl _ _), Lib.hid (fun j hj => absurd hj (Nat.not_lt_zero _))⟩
  case round =>
    obtain ⟨k, hk, rfl, HBr, HBrr, HJ⟩ := hrel
    have hbx := HX.out.2.below HBrr.out
    obtain ⟨c0, c1, c2, c3, c4, c5, c6, c7, c8, c9, c10⟩ := hbx.cells
    have lg := hbx.1
    dsimp only at c0 c1 c2 c3
    clear hbx
    by_cases hlt : k < L.sigs.length
    · go_wp2_with fail
      go_loopw [4] (fun c wi => ∃ i : Nat, i ≤ k ∧ c = .int .i64 i ∧ Hid (Below w.heap.size w wi) ∧ Hid (Below X.heap.size X wi) ∧ Hid (∀ j, j < i → sigP L j k = false)) (fun c _ => k - (intOf c).toNat)
      case atStart => exact ⟨0, Nat.zero_le _, rfl, HBr, HBrr, Lib.hid (fun j hj => absurd hj (Nat.not_lt_zero _))⟩
      case round =>
        obtain ⟨i, hi, rfl, HBi, HBii, HN⟩ := hrel
        clear c0 c1 c2 c3 c4 c5 c6 c7 c8 c9 c10 lg HBr HBrr
        obtain ⟨wi, rfl⟩ : ∃ wi : World, wi = wr := ⟨_, rfl⟩
        by_cases hlti : i < k
        · skip
          obtain ⟨b, off, e0, hrow⟩ := (HL.out.below HBi.out).sigs.get (show i < L.sigs.length by omega)
          obtain ⟨x, hx⟩ : ∃ x, L.sigs[i]? = some x := ⟨_, List.getElem?_eq_getElem (by omega)⟩
          obtain ⟨y, hy⟩ : ∃ y, L.sigs[k]? = some y := ⟨_, List.getElem?_eq_getElem hlt⟩
          have hq : sigP L i k = decide (x.s = y.s ∧ x.p = y.p) := by
            unfold sigP
            rw [hx, hy]
            obtain ⟨xs, xp⟩ := x
            obtain ⟨ys, yp⟩ := y
            simp
          dsimp only at e0
          subst e0
          have x0 : wi.cell? ⟨b, off + i * 2, none⟩ = some (.int .i64 x.s) := hrow.2 i x hx 0 _ rfl
          have x1 : wi.cell? ⟨b, off + i * 2 + 1, none⟩ = some (.int .i64 x.p) := hrow.2 i x hx 1 _ rfl
          have y0 : wi.cell? ⟨b, off + k * 2, none⟩ = some (.int .i64 y.s) := hrow.2 k y hy 0 _ rfl
          have y1 : wi.cell? ⟨b, off + k * 2 + 1, none⟩ = some (.int .i64 y.p) := hrow.2 k y hy 1 _ rfl
          have lb := hrow.1
          have hbx := HX.out.2.below HBii.out
          obtain ⟨c0, c1, c2, c3, c4, c5, c6, c7, c8, c9, c10⟩ := hbx.cells
          have lg := hbx.1
          dsimp only at c0 c1 c2 c3
          have hm : i < L.sigs.length := by omega
          generalize x.s = xs at x0 hq
          generalize x.p = xp at x1 hq
          generalize y.s = ys at y0 hq
          generalize y.p = yp at y1 hq
          obtain ⟨q, hq2⟩ : ∃ q, q = sigP L i k := ⟨_, rfl⟩
          have HQ := Lib.hid hq2
          rw [← hq2] at hq
          clear hrow hx hy hbx hq2
          have hqE : ∀ V', (Op.equalIn 10000 49 (.agg #[.int .i64 xs, .int .i64 xp]) (.agg #[.int .i64 ys, .int .i64 yp])).run Tryz.prog V' = .ok q V' := fun V' => by rw [eqQ_portI, hq]
          clear hq
          go_wp2_with fail
          refine wp_region_ext (by kernel_rfl) (by kernel_rfl) fun hxx => ?_
          repeat (go_big_quiet_step (fail))
          refine wpQuiet_nil ?_
          intro w5 b5
          have HB5 := Lib.hid (bchain HBii.out b5)
          have HB6 := Lib.hid (bchain HBi.out b5)
          clear b5 hqE hxx x0 x1 y0 y1 c0 c1 c2 c3 c4 c5 c6 c7 c8 c9 c10
          cases q with
          | true =>
            go_wp2
            go_ret
            exact ⟨ret_int (firstDup_at hlt HJ.out (dupAt_hit (by omega) HQ.out.symm)).symm, HB6.out⟩
          | false =>
            go_wp2
            go_roundw
            case rel => exact ⟨i + 1, by omega, by go_num, HB6, HB5, Lib.hid (fun j hj => by
              by_cases e : j = i
              · subst e; exact HQ.out.symm
              · exact HN.out j (by omega))⟩
            case measure => simp [intOf]; omega
        · obtain rfl : i = k := by omega
          go_wp2
          go_roundw
          case rel => exact ⟨i + 1, by omega, by go_num, HBi, HBii, Lib.hid (fun j hj => by
            by_cases e : j = i
            · subst e; exact dupAt_miss HN.out
            · exact HJ.out j (by omega))⟩
          case measure => simp [intOf]; omega
    · obtain rfl : k = L.sigs.length := by omega
      go_wp2
      go_ret
      exact ⟨ret_int (firstDup_no HJ.out).symm, HBr.out⟩

set_option maxRecDepth 100000 in
set_option maxHeartbeats 8000000 in
theorem rexits_any (L : Lay) (P : Where) (w : World) (hL : LayAt w P L) :
    Calls Tryz.prog 60 #[L.val P] w fun e w' => e = .returned (.int .i64 (firstDup (exQ L) L.exits.length)) ∧ Below w.heap.size w w' := by
  have m1 : L.exits.length ≤ 9223372036854775807 := Nat.le_trans hL.l2.1 hL.l2.2
  obtain ⟨a0, a1, a2, a3, p0, p1, p2, p3⟩ := P
  have HL := Lib.hid hL
  clear hL
  unfold Lay.val
  go_enter Tryz.func60, Tryz.ntmps60
  go_wp2_with fail
  obtain ⟨X, hX⟩ : ∃ X, X = w.alloc (.cells #[.slice a0 L.secs.length p0, .slice a1 L.sigs.length p1, .slice a2 L.exits.length p2, .slice a3 L.flanks.length p3, .int .i64 L.t0, .int .i64 L.t1, .int .i64 L.t2, .int .i64 L.t3, .int .i64 L.t4, .int .i64 L.t5, .int .i64 L.t6] 29) := ⟨_, rfl⟩
  have hBX : Below w.heap.size w X := by rw [hX]; exact bself
  have hBL : BoxL X w.heap.size L ⟨a0, a1, a2, a3, p0, p1, p2, p3⟩ := by rw [hX]; exact BoxL.make (L := L) (p := ⟨a0, a1, a2, a3, p0, p1, p2, p3⟩) _ rfl
  rw [← hX]
  have HX := Lib.hid (⟨hBX, hBL⟩ : _ ∧ _)
  clear hX hBX hBL
  go_loopw [3] (fun c wr => ∃ k : Nat, k ≤ L.exits.length ∧ c = .int .i64 k ∧ Hid (Below w.heap.size w wr) ∧ Hid (Below X.heap.size X wr) ∧ Hid (∀ j, j < k → dupAt (exQ L) j = false)) (fun c _ => L.exits.length - (intOf c).toNat)
  case atStart => exact ⟨0, Nat.zero_le _, rfl, Lib.hid HX.out.1, Lib.hid (Below.refl _ _), Lib.hid (fun j hj => absurd hj (Nat.not_lt_zero _))⟩
  case round =>
    obtain ⟨k, hk, rfl, HBr, HBrr, HJ⟩ := hrel
    have hbx := HX.out.2.below HBrr.out
    obtain ⟨c0, c1, c2, c3, c4, c5, c6, c7, c8, c9, c10⟩ := hbx.cells
    have lg := hbx.1
    dsimp only at c0 c1 c2 c3
    clear hbx
    by_cases hlt : k < L.exits.length
    · go_wp2_with fail
      go_loopw [4] (fun c wi => ∃ i : Nat, i ≤ k ∧ c = .int .i64 i ∧ Hid (Below w.heap.size w wi) ∧ Hid (Below X.heap.size X wi) ∧ Hid (∀ j, j < i → exQ L j k = false)) (fun c _ => k - (intOf c).toNat)
      case atStart => exact ⟨0, Nat.zero_le _, rfl, HBr, HBrr, Lib.hid (fun j hj => absurd hj (Nat.not_lt_zero _))⟩
      case round =>
        obtain ⟨i, hi, rfl, HBi, HBii, HN⟩ := hrel
        clear c0 c1 c2 c3 c4 c5 c6 c7 c8 c9 c10 lg HBr HBrr
        obtain ⟨wi, rfl⟩ : ∃ wi : World, wi = wr := ⟨_, rfl⟩
        by_cases hlti : i < k
        · skip
          obtain ⟨es, hes, hAt, hov⟩ := (HL.out.below HBi.out).exits
          have hlen : es.length = L.exits.length := by rw [← hes, List.length_map]
          obtain ⟨b, off, e0, hrow⟩ := hAt.get (j := i) (by omega)
          obtain ⟨x, hx⟩ : ∃ x, es[i]? = some x := ⟨_, List.getElem?_eq_getElem (by omega)⟩
          obtain ⟨y, hy⟩ : ∃ y, es[k]? = some y := ⟨_, List.getElem?_eq_getElem (by omega)⟩
          have hq : exQ L i k = decide (x.1.s = y.1.s ∧ x.1.p = y.1.p) := by
            unfold exQ
            rw [← hes, List.getElem?_map, List.getElem?_map, hx, hy]
            obtain ⟨⟨xs, xp, xo⟩, xv⟩ := x
            obtain ⟨⟨ys, yp, yo⟩, yv⟩ := y
            simp [exP]
          dsimp only at e0
          subst e0
          have x0 : wi.cell? ⟨b, off + i * 3, none⟩ = some (.int .i64 x.1.s) := hrow.2 i x hx 0 _ rfl
          have x1 : wi.cell? ⟨b, off + i * 3 + 1, none⟩ = some (.int .i64 x.1.p) := hrow.2 i x hx 1 _ rfl
          have y0 : wi.cell? ⟨b, off + k * 3, none⟩ = some (.int .i64 y.1.s) := hrow.2 k y hy 0 _ rfl
          have y1 : wi.cell? ⟨b, off + k * 3 + 1, none⟩ = some (.int .i64 y.1.p) := hrow.2 k y hy 1 _ rfl
          have lb := hrow.1
          have hbx := HX.out.2.below HBii.out
          obtain ⟨c0, c1, c2, c3, c4, c5, c6, c7, c8, c9, c10⟩ := hbx.cells
          have lg := hbx.1
          dsimp only at c0 c1 c2 c3
          have hm : i < L.exits.length := by omega
          generalize x.1.s = xs at x0 hq
          generalize x.1.p = xp at x1 hq
          generalize y.1.s = ys at y0 hq
          generalize y.1.p = yp at y1 hq
          obtain ⟨q, hq2⟩ : ∃ q, q = exQ L i k := ⟨_, rfl⟩
          have HQ := Lib.hid hq2
          rw [← hq2] at hq
          clear hrow hx hy hbx hq2 hes hAt hov hlen
          have hqE : ∀ V', (Op.equalIn 10000 49 (.agg #[.int .i64 xs, .int .i64 xp]) (.agg #[.int .i64 ys, .int .i64 yp])).run Tryz.prog V' = .ok q V' := fun V' => by rw [eqQ_portI, hq]
          clear hq
          go_wp2_with fail
          refine wp_region_ext (by kernel_rfl) (by kernel_rfl) fun hxx => ?_
          repeat (go_big_quiet_step (fail))
          refine wpQuiet_nil ?_
          intro w5 b5
          have HB5 := Lib.hid (bchain HBii.out b5)
          have HB6 := Lib.hid (bchain HBi.out b5)
          clear b5 hqE hxx x0 x1 y0 y1 c0 c1 c2 c3 c4 c5 c6 c7 c8 c9 c10
          cases q with
          | true =>
            go_wp2
            go_ret
            exact ⟨ret_int (firstDup_at hlt HJ.out (dupAt_hit (by omega) HQ.out.symm)).symm, HB6.out⟩
          | false =>
            go_wp2
            go_roundw
            case rel => exact ⟨i + 1, by omega, by go_num, HB6, HB5, Lib.hid (fun j hj => by
              by_cases e : j = i
              · subst e; exact HQ.out.symm
              · exact HN.out j (by omega))⟩
            case measure => simp [intOf]; omega
        · obtain rfl : i = k := by omega
          go_wp2
          go_roundw
          case rel => exact ⟨i + 1, by omega, by go_num, HBi, HBii, Lib.hid (fun j hj => by
            by_cases e : j = i
            · subst e; exact dupAt_miss HN.out
            · exact HJ.out j (by omega))⟩
          case measure => simp [intOf]; omega
    · obtain rfl : k = L.exits.length := by omega
      go_wp2
      go_ret
      exact ⟨ret_int (firstDup_no HJ.out).symm, HBr.out⟩

set_option maxRecDepth 100000 in
set_option maxHeartbeats 8000000 in
theorem rflanks_any (L : Lay) (P : Where) (w : World) (hL : LayAt w P L) :
    Calls Tryz.prog 62 #[L.val P] w fun e w' => e = .returned (.int .i64 (firstDup (flQ L) L.flanks.length)) ∧ Below w.heap.size w w' := by
  have m1 : L.flanks.length ≤ 9223372036854775807 := Nat.le_trans hL.l3.1 hL.l3.2
  obtain ⟨a0, a1, a2, a3, p0, p1, p2, p3⟩ := P
  have HL := Lib.hid hL
  clear hL
  unfold Lay.val
  go_enter Tryz.func62, Tryz.ntmps62
  go_wp2_with fail
  obtain ⟨X, hX⟩ : ∃ X, X = w.alloc (.cells #[.slice a0 L.secs.length p0, .slice a1 L.sigs.length p1, .slice a2 L.exits.length p2, .slice a3 L.flanks.length p3, .int .i64 L.t0, .int .i64 L.t1, .int .i64 L.t2, .int .i64 L.t3, .int .i64 L.t4, .int .i64 L.t5, .int .i64 L.t6] 29) := ⟨_, rfl⟩
  have hBX : Below w.heap.size w X := by rw [hX]; exact bself
  have hBL : BoxL X w.heap.size L ⟨a0, a1, a2, a3, p0, p1, p2, p3⟩ := by rw [hX]; exact BoxL.make (L := L) (p := ⟨a0, a1, a2, a3, p0, p1, p2, p3⟩) _ rfl
  rw [← hX]
  have HX := Lib.hid (⟨hBX, hBL⟩ : _ ∧ _)
  clear hX hBX hBL
  go_loopw [3] (fun c wr => ∃ k : Nat, k ≤ L.flanks.length ∧ c = .int .i64 k ∧ Hid (Below w.heap.size w wr) ∧ Hid (Below X.heap.size X wr) ∧ Hid (∀ j, j < k → dupAt (flQ L) j = false)) (fun c _ => L.flanks.length - (intOf c).toNat)
  case atStart => exact ⟨0, Nat.zero_le _, rfl, Lib.hid HX.out.1, Lib.hid (Below.refl _ _), Lib.hid (fun j hj => absurd hj (Nat.not_lt_zero _))⟩
  case round =>
    obtain ⟨k, hk, rfl, HBr, HBrr, HJ⟩ := hrel
    have hbx := HX.out.2.below HBrr.out
    obtain ⟨c0, c1, c2, c3, c4, c5, c6, c7, c8, c9, c10⟩ := hbx.cells
    have lg := hbx.1
    dsimp only at c0 c1 c2 c3
    clear hbx
    by_cases hlt : k < L.flanks.length
    · go_wp2_with fail
      go_loopw [4] (fun c wi => ∃ i : Nat, i ≤ k ∧ c = .int .i64 i ∧ Hid (Below w.heap.size w wi) ∧ Hid (Below X.heap.size X wi) ∧ Hid (∀ j, j < i → flQ L j k = false)) (fun c _ => k - (intOf c).toNat)
      case atStart => exact ⟨0, Nat.zero_le _, rfl, HBr, HBrr, Lib.hid (fun j hj => absurd hj (Nat.not_lt_zero _))⟩
      case round =>
        obtain ⟨i, hi, rfl, HBi, HBii, HN⟩ := hrel
        clear c0 c1 c2 c3 c4 c5 c6 c7 c8 c9 c10 lg HBr HBrr
        obtain ⟨wi, rfl⟩ : ∃ wi : World, wi = wr := ⟨_, rfl⟩
        by_cases hlti : i < k
        · skip
          obtain ⟨b, off, e0, hrow⟩ := (HL.out.below HBi.out).flanks.get (show i < L.flanks.length by omega)
          obtain ⟨x, hx⟩ : ∃ x, L.flanks[i]? = some x := ⟨_, List.getElem?_eq_getElem (by omega)⟩
          obtain ⟨y, hy⟩ : ∃ y, L.flanks[k]? = some y := ⟨_, List.getElem?_eq_getElem hlt⟩
          have hq : flQ L i k = (decide (x.s = y.s) && (decide (x.way = y.way) && decide (x.pt = y.pt))) := by
            unfold flQ
            rw [hx, hy]
            obtain ⟨x1, x2, x3, x4⟩ := x
            obtain ⟨y1, y2, y3, y4⟩ := y
            simp [bareF]
          dsimp only at e0
          subst e0
          have x0 : wi.cell? ⟨b, off + i * 4, none⟩ = some (.int .i64 x.s) := hrow.2 i x hx 0 _ rfl
          have x1 : wi.cell? ⟨b, off + i * 4 + 1, none⟩ = some (.int .i64 x.way) := hrow.2 i x hx 1 _ rfl
          have x2 : wi.cell? ⟨b, off + i * 4 + 2, none⟩ = some (.int .i64 x.pt) := hrow.2 i x hx 2 _ rfl
          have x3 : wi.cell? ⟨b, off + i * 4 + 3, none⟩ = some (.int .i64 x.pos) := hrow.2 i x hx 3 _ rfl
          have y0 : wi.cell? ⟨b, off + k * 4, none⟩ = some (.int .i64 y.s) := hrow.2 k y hy 0 _ rfl
          have y1 : wi.cell? ⟨b, off + k * 4 + 1, none⟩ = some (.int .i64 y.way) := hrow.2 k y hy 1 _ rfl
          have y2 : wi.cell? ⟨b, off + k * 4 + 2, none⟩ = some (.int .i64 y.pt) := hrow.2 k y hy 2 _ rfl
          have y3 : wi.cell? ⟨b, off + k * 4 + 3, none⟩ = some (.int .i64 y.pos) := hrow.2 k y hy 3 _ rfl
          have lb := hrow.1
          have hbx := HX.out.2.below HBii.out
          obtain ⟨c0, c1, c2, c3, c4, c5, c6, c7, c8, c9, c10⟩ := hbx.cells
          have lg := hbx.1
          dsimp only at c0 c1 c2 c3
          have hm : i < L.flanks.length := by omega
          generalize x.s = xs at x0 hq
          generalize x.way = xway at x1 hq
          generalize x.pt = xpt at x2 hq
          generalize x.pos = xpos at x3
          generalize y.s = ys at y0 hq
          generalize y.way = yway at y1 hq
          generalize y.pt = ypt at y2 hq
          generalize y.pos = ypos at y3
          obtain ⟨q, hq2⟩ : ∃ q, q = flQ L i k := ⟨_, rfl⟩
          have HQ := Lib.hid hq2
          rw [← hq2] at hq
          clear hrow hx hy hbx hq2
          have HQQ := Lib.hid hq
          clear hq
          have dk : decide ((k : Int) < (L.flanks.length : Int)) = true := decide_eq_true (by omega)
          have hk0 : (0 : Int) ≤ (k : Int) := by omega
          have hk1 : (k : Int) < (L.flanks.length : Int) := by omega
          have hi0 : (0 : Int) ≤ (i : Int) := by omega
          have hi1 : (i : Int) < (L.flanks.length : Int) := by omega
          clear c0 c1 c2 c4 c5 c6 c7 c8 c9 c10
          have n1 := World.new_ne wi _ x0
          have n2 := World.new_ne wi _ c3
          go_wp2_with fail
          by_cases e1 : xs = ys
          · subst e1
            by_cases e2 : xway = yway
            · subst e2
              by_cases e3 : xpt = ypt
              · subst e3
                obtain rfl : q = true := by rw [HQQ.out]; simp
                go_region_held3 (fun w' => w'.cell? ⟨b, off + i * 4, none⟩ = some (.int .i64 xs) ∧ w'.cell? ⟨b, off + i * 4 + 1, none⟩ = some (.int .i64 xway) ∧ w'.cell? ⟨b, off + i * 4 + 2, none⟩ = some (.int .i64 xpt) ∧ w'.cell? ⟨b, off + i * 4 + 3, none⟩ = some (.int .i64 xpos) ∧ w'.cell? ⟨b, off + k * 4, none⟩ = some (.int .i64 xs) ∧ w'.cell? ⟨b, off + k * 4 + 1, none⟩ = some (.int .i64 xway) ∧ w'.cell? ⟨b, off + k * 4 + 2, none⟩ = some (.int .i64 xpt) ∧ w'.cell? ⟨b, off + k * 4 + 3, none⟩ = some (.int .i64 ypos) ∧ w'.cell? ⟨w.heap.size, 3, none⟩ = some (.slice (some ⟨b, off, none⟩) L.flanks.length p3)) (go_keep) (fail)
                all_goals
                  clear x0 x1 x2 x3 y0 y1 y2 y3 c3
                  go_wp2
                  go_ret
                  exact ⟨ret_int (firstDup_at hlt HJ.out (dupAt_hit (by omega) HQ.out.symm)).symm, (bchain HBi.out (bchain bself bself)).drew⟩
              · have d3 : decide (xpt = ypt) = false := decide_eq_false e3
                obtain rfl : q = false := by rw [HQQ.out, d3]; simp
                go_region_held3 (fun w' => w'.cell? ⟨b, off + i * 4, none⟩ = some (.int .i64 xs) ∧ w'.cell? ⟨b, off + i * 4 + 1, none⟩ = some (.int .i64 xway) ∧ w'.cell? ⟨b, off + i * 4 + 2, none⟩ = some (.int .i64 xpt) ∧ w'.cell? ⟨b, off + i * 4 + 3, none⟩ = some (.int .i64 xpos) ∧ w'.cell? ⟨b, off + k * 4, none⟩ = some (.int .i64 xs) ∧ w'.cell? ⟨b, off + k * 4 + 1, none⟩ = some (.int .i64 xway) ∧ w'.cell? ⟨b, off + k * 4 + 2, none⟩ = some (.int .i64 ypt) ∧ w'.cell? ⟨b, off + k * 4 + 3, none⟩ = some (.int .i64 ypos) ∧ w'.cell? ⟨w.heap.size, 3, none⟩ = some (.slice (some ⟨b, off, none⟩) L.flanks.length p3)) (go_keep) (fail)
                all_goals
                  clear x0 x1 x2 x3 y0 y1 y2 y3 c3
                  go_wp2
                  go_roundw
                  case rel => exact ⟨i + 1, by omega, by go_num, Lib.hid (bchain HBi.out (bchain bself bself)).drew, Lib.hid (bchain HBii.out (bchain bself bself)).drew, Lib.hid (fun j hj => by
                    by_cases e : j = i
                    · subst e; exact HQ.out.symm
                    · exact HN.out j (by omega))⟩
                  case measure => simp [intOf]; omega
            · have d2 : decide (xway = yway) = false := decide_eq_false e2
              obtain rfl : q = false := by rw [HQQ.out, d2]; simp
              go_region_held3 (fun w' => w'.cell? ⟨b, off + i * 4, none⟩ = some (.int .i64 xs) ∧ w'.cell? ⟨b, off + i * 4 + 1, none⟩ = some (.int .i64 xway) ∧ w'.cell? ⟨b, off + i * 4 + 2, none⟩ = some (.int .i64 xpt) ∧ w'.cell? ⟨b, off + i * 4 + 3, none⟩ = some (.int .i64 xpos) ∧ w'.cell? ⟨b, off + k * 4, none⟩ = some (.int .i64 xs) ∧ w'.cell? ⟨b, off + k * 4 + 1, none⟩ = some (.int .i64 yway) ∧ w'.cell? ⟨b, off + k * 4 + 2, none⟩ = some (.int .i64 ypt) ∧ w'.cell? ⟨b, off + k * 4 + 3, none⟩ = some (.int .i64 ypos) ∧ w'.cell? ⟨w.heap.size, 3, none⟩ = some (.slice (some ⟨b, off, none⟩) L.flanks.length p3)) (go_keep) (fail)
              all_goals
                clear x0 x1 x2 x3 y0 y1 y2 y3 c3
                go_wp2
                go_roundw
                case rel => exact ⟨i + 1, by omega, by go_num, Lib.hid (bchain HBi.out (bchain bself bself)).drew, Lib.hid (bchain HBii.out (bchain bself bself)).drew, Lib.hid (fun j hj => by
                  by_cases e : j = i
                  · subst e; exact HQ.out.symm
                  · exact HN.out j (by omega))⟩
                case measure => simp [intOf]; omega
          · have d1 : decide (xs = ys) = false := decide_eq_false e1
            obtain rfl : q = false := by rw [HQQ.out, d1]; simp
            go_region_held3 (fun w' => w'.cell? ⟨b, off + i * 4, none⟩ = some (.int .i64 xs) ∧ w'.cell? ⟨b, off + i * 4 + 1, none⟩ = some (.int .i64 xway) ∧ w'.cell? ⟨b, off + i * 4 + 2, none⟩ = some (.int .i64 xpt) ∧ w'.cell? ⟨b, off + i * 4 + 3, none⟩ = some (.int .i64 xpos) ∧ w'.cell? ⟨b, off + k * 4, none⟩ = some (.int .i64 ys) ∧ w'.cell? ⟨b, off + k * 4 + 1, none⟩ = some (.int .i64 yway) ∧ w'.cell? ⟨b, off + k * 4 + 2, none⟩ = some (.int .i64 ypt) ∧ w'.cell? ⟨b, off + k * 4 + 3, none⟩ = some (.int .i64 ypos) ∧ w'.cell? ⟨w.heap.size, 3, none⟩ = some (.slice (some ⟨b, off, none⟩) L.flanks.length p3)) (go_keep) (fail)
            all_goals
              clear x0 x1 x2 x3 y0 y1 y2 y3 c3
              go_wp2
              go_roundw
              case rel => exact ⟨i + 1, by omega, by go_num, Lib.hid (bchain HBi.out (bchain bself bself)).drew, Lib.hid (bchain HBii.out (bchain bself bself)).drew, Lib.hid (fun j hj => by
                by_cases e : j = i
                · subst e; exact HQ.out.symm
                · exact HN.out j (by omega))⟩
              case measure => simp [intOf]; omega
        · obtain rfl : i = k := by omega
          go_wp2
          go_roundw
          case rel => exact ⟨i + 1, by omega, by go_num, HBi, HBii, Lib.hid (fun j hj => by
            by_cases e : j = i
            · subst e; exact dupAt_miss HN.out
            · exact HJ.out j (by omega))⟩
          case measure => simp [intOf]; omega
    · obtain rfl : k = L.flanks.length := by omega
      go_wp2
      go_ret
      exact ⟨ret_int (firstDup_no HJ.out).symm, HBr.out⟩
end Go.Proofs.YtpcojaoeahdgcaaGreatDoor
