/-
  layout.Right.
-/
import Derived.Test.YtkphihbimdffjaaDoorMin
import Derived.Deep.DeepCutAuto
namespace Go.Proofs.YtkphihbimdffjaaDoor
open Go.RowKit Go.Shelf
attribute [local go_sem] Oper.semAt_some

def sizesT (L : Lay) : Bool := decide (L.secs.length ≤ 24) && decide (L.sigs.length ≤ 12) && decide (L.exits.length ≤ 12) && decide (L.flanks.length ≤ 16)
def Lay.times (L : Lay) : List Int := [L.t0, L.t1, L.t2, L.t3, L.t4, L.t5, L.t6]
def timesT (L : Lay) : Bool := L.times.all fun t => decide (1 ≤ t) && decide (t ≤ 1000)
def overT (L : Lay) (x : Ext') : Bool := decide (x.over.length ≤ 2) && x.over.all (fun s => stepB L s.s s.i s.o)
def portsT (L : Lay) : Bool := (portsL L).all (fun x => hasB L x.s x.p)
def rightL (L : Lay) : Bool := sizesT L && timesT L && L.secs.all rightT && L.flanks.all (flankT L) && portsT L && L.exits.all (overT L)
theorem any_not {α : Type} (f : α → Bool) (xs : List α) : xs.any (fun x => !f x) = !xs.all f := by
  induction xs with
  | nil => rfl
  | cons x xs ih => simp [ih]
theorem times_min {L : Lay} {m : Int} (h1 : m ∈ L.times) (h2 : ∀ z ∈ L.times, m ≤ z) {k : Int} (h3 : k ∈ L.times) (h4 : ∀ z ∈ L.times, z ≤ k) : timesT L = (decide (1 ≤ m) && decide (k ≤ 1000)) := by
  unfold timesT
  rw [Bool.eq_iff_iff]
  simp only [List.all_eq_true, Bool.and_eq_true, decide_eq_true_iff]
  constructor
  · intro h; exact ⟨(h m h1).1, (h k h3).2⟩
  · intro h z hz
    have := h2 z hz
    have := h4 z hz
    omega

theorem ports_stops (L : Lay) (p : Where) (g : Nat) (w : World) (hL : LayAt w p L) (hB : Box w g L p) :
    SeqStopsK Fence.wide 4 Tryd.prog 70 #[.pointer (some ⟨g, 0, none⟩)] (fun x : Prt => #[.agg #[.int .i64 x.s, .int .i64 x.p]]) (KeepsE NoB NoT w.heap.size) (fun ys => ys = portsL L) (fun pre => pre <+: portsL L) (portsL L).length w := by
  intro l J Jx W hW hJ _ hY hJ0
  exact ports1_in l g w.heap.size L p J Jx W hJ hY (hL.below hW) (hB.below hW) hJ0

/-- What Right's loop over the ports leaves. -/
def PI (L : Lay) (pre : List Prt) : Prop := ∀ x ∈ pre, hasB L x.s x.p = true
def PX (L : Lay) (c : Code) (pre : List Prt) : Prop := c = .goto 0 ∧ ∃ x ∈ pre, hasB L x.s x.p = false

set_option maxRecDepth 100000 in
set_option maxHeartbeats 16000000 in
theorem rightLay_any (L : Lay) (p : Where) (w : World) (hL : LayAt w p L) (K : Kinds w) :
    Calls Tryd.prog 18 #[L.val p] w fun e w' => e = .returned (.bool (rightL L)) ∧ Below w.heap.size w w' := by
  have hr : (sizesT L = true → timesT L = true → L.secs.all rightT = true → L.flanks.all (flankT L) = true → portsT L = true → rightL L = L.exits.all (overT L)) ∧
      (sizesT L = false → rightL L = false) ∧ (timesT L = false → rightL L = false) ∧ (L.secs.all rightT = false → rightL L = false) ∧ (L.flanks.all (flankT L) = false → rightL L = false) ∧ (portsT L = false → rightL L = false) := by
    unfold rightL
    refine ⟨fun h1 h2 h3 h4 h5 => by simp [h1, h2, h3, h4, h5], fun h => by simp [h], fun h => by simp [h], fun h => by simp [h], fun h => by simp [h], fun h => by simp [h]⟩
  generalize rightL L = r at hr ⊢
  have m0 : L.secs.length ≤ 9223372036854775807 := Nat.le_trans hL.l0.1 hL.l0.2
  have m1 : L.sigs.length ≤ 9223372036854775807 := Nat.le_trans hL.l1.1 hL.l1.2
  have m2 : L.exits.length ≤ 9223372036854775807 := Nat.le_trans hL.l2.1 hL.l2.2
  have m3 : L.flanks.length ≤ 9223372036854775807 := Nat.le_trans hL.l3.1 hL.l3.2
  obtain ⟨a0, a1, a2, a3, p0, p1, p2, p3⟩ := p
  have HR := Lib.hid hr
  have HL := Lib.hid hL
  have KH := Lib.hid K
  clear hr hL K
  refine calls_marked w.heap.size Tryd.func18 rfl ?_
  simp only [Tryd.ntmps18, List.size_toArray, List.length_cons, List.length_nil, Nat.reduceAdd, Nat.reduceSub, Array.replicate_succ, Array.replicate_zero, List.push_toArray, List.append_toArray, List.nil_append, List.cons_append]
  go_wp2_with fail
  refine wp_scope_fwd 0 rfl ?_
  go_upto_region 6 with fail
  obtain ⟨X, hX⟩ : ∃ X, X = ((w.alloc (.cells #[.slice a0 L.secs.length p0, .slice a1 L.sigs.length p1, .slice a2 L.exits.length p2, .slice a3 L.flanks.length p3, .int .i64 L.t0, .int .i64 L.t1, .int .i64 L.t2, .int .i64 L.t3, .int .i64 L.t4, .int .i64 L.t5, .int .i64 L.t6] 29)).alloc (.cells #[.int .i64 L.t0, .int .i64 L.t1, .int .i64 L.t2, .int .i64 L.t3, .int .i64 L.t4, .int .i64 L.t5, .int .i64 L.t6] 27)).alloc (.cells #[.int .i64 L.t0, .int .i64 L.t1, .int .i64 L.t2, .int .i64 L.t3, .int .i64 L.t4, .int .i64 L.t5, .int .i64 L.t6] 3) := ⟨_, rfl⟩
  have hB : Below w.heap.size w X := by rw [hX]; exact bchain (bchain bself bself) bself
  have hsz : X.heap.size = w.heap.size + 3 := by rw [hX]; simp
  have hBox : Box X w.heap.size L ⟨a0, a1, a2, a3, p0, p1, p2, p3⟩ := by
    refine ⟨by omega, fun i v hv => ?_⟩
    rw [hX]
    simpa [go_sem, Lay.cells] using hv
  have hT : ∀ (j : Nat) (z : Int), L.times[j]? = some z → X.cell? ⟨w.heap.size + 1 + 1, j, none⟩ = some (.int .i64 z) := by
    intro j z hz
    rw [hX]
    have hl : j < 7 := (List.getElem?_eq_some_iff.1 hz).1
    have : j = 0 ∨ j = 1 ∨ j = 2 ∨ j = 3 ∨ j = 4 ∨ j = 5 ∨ j = 6 := by omega
    rcases this with rfl | rfl | rfl | rfl | rfl | rfl | rfl <;> (cases hz; simp [go_sem])
  rw [← hX]
  have HBX := Lib.hid hB
  have HBo := Lib.hid hBox
  have HT := Lib.hid hT
  have lX : w.heap.size < X.heap.size := by omega
  have c0 : X.cell? ⟨w.heap.size, 0, none⟩ = some (.slice a0 L.secs.length p0) := hBox.2 0 _ rfl
  have c1 : X.cell? ⟨w.heap.size, 1, none⟩ = some (.slice a1 L.sigs.length p1) := hBox.2 1 _ rfl
  have c2 : X.cell? ⟨w.heap.size, 2, none⟩ = some (.slice a2 L.exits.length p2) := hBox.2 2 _ rfl
  have c3 : X.cell? ⟨w.heap.size, 3, none⟩ = some (.slice a3 L.flanks.length p3) := hBox.2 3 _ rfl
  clear hX hB hsz hBox hT
  by_cases h0 : 24 < L.secs.length ∨ 12 < L.sigs.length ∨ 12 < L.exits.length ∨ 16 < L.flanks.length
  · obtain rfl : r = false := HR.out.2.1 (by unfold sizesT; simp; omega)
    have h0' : (24 : Int) < L.secs.length ∨ (12 : Int) < L.sigs.length ∨ (12 : Int) < L.exits.length ∨ (16 : Int) < L.flanks.length := by omega
    clear h0
    go_wp2_with fail
    all_goals
      first
        | (exfalso; omega)
        | (
           refine wp_goto ?_
           refine ⟨rfl, ?_⟩
           go_wp2
           rw [Exit.noGoto_ret]
           exact ⟨⟨[], Marked.nil _ _⟩, fun w' hb hk => ⟨.bool false, by simp [results, Tryd.results18, go_sem], rfl, (HBX.out).trans hb⟩⟩)
  · have hs : sizesT L = true := by unfold sizesT; simp; omega
    have HS := Lib.hid hs
    have d0 : decide ((24 : Int) < (L.secs.length : Int)) = false := decide_eq_false (by omega)
    have d1 : decide ((12 : Int) < (L.sigs.length : Int)) = false := decide_eq_false (by omega)
    have d2 : decide ((12 : Int) < (L.exits.length : Int)) = false := decide_eq_false (by omega)
    have d3 : decide ((16 : Int) < (L.flanks.length : Int)) = false := decide_eq_false (by omega)
    clear h0 hs
    have hmin : Calls Tryd.prog 39 #[.slice (some ⟨w.heap.size + 1 + 1, 0, none⟩) 7 7] X (MinOf L.times X) := min_any (w.heap.size + 1 + 1) 7 L.times X HT.out (by simp [Lay.times]) (by simp [Lay.times])
    have hmax : Calls Tryd.prog 40 #[.slice (some ⟨w.heap.size + 1 + 1, 0, none⟩) 7 7] X (MaxOf L.times X) := max_any (w.heap.size + 1 + 1) 7 L.times X HT.out (by simp [Lay.times]) (by simp [Lay.times])
    have hcs : ∀ W, Below X.heap.size X W → Calls Tryd.prog 41 #[.slice a0 L.secs.length p0, .func (.func 34) #[] #[]] W fun e w' => e = .returned (.bool (L.secs.any (fun c => !rightT c))) ∧ Below W.heap.size W w' := fun W hW =>
      containsSection_any 34 #[] (enters_of Tryd.func34 (by kernel_rfl) rfl) (fun c => !rightT c) a0 p0 L.secs W (HL.out.below (bchain HBX.out hW)).secs HL.out.l0.1 HL.out.l0.2
        (fun W' c hc hb => by simpa using right1_any c (HL.out.kinds c hc).1 (HL.out.kinds c hc).2 W' (KH.out.below (bchain (bchain HBX.out hW) hb)))
    have hcf : ∀ W, Below X.heap.size X W → Calls Tryd.prog 42 #[.slice a3 L.flanks.length p3, .func (.func 37) #[] #[.pointer (some ⟨w.heap.size, 0, none⟩)]] W fun e w' => e = .returned (.bool (L.flanks.any (fun c => !flankT L c))) ∧ Below W.heap.size W w' := fun W hW =>
      containsFlank_any 37 #[.pointer (some ⟨w.heap.size, 0, none⟩)] (enters_of Tryd.func37 (by kernel_rfl) rfl) (fun c => !flankT L c) a3 p3 L.flanks W (HL.out.below (bchain HBX.out hW)).flanks HL.out.l3.1 HL.out.l3.2
        (fun W' c _ hb => right3_any L ⟨a0, a1, a2, a3, p0, p1, p2, p3⟩ c w.heap.size W' (HL.out.below (bchain (bchain HBX.out hW) hb)) (KH.out.below (bchain (bchain HBX.out hW) hb)) (HBo.out.below (bchain hW hb)))
    rw [any_not] at hcs hcf
    obtain ⟨q1, hq1⟩ : ∃ q, q = L.secs.all rightT := ⟨_, rfl⟩
    obtain ⟨q2, hq2⟩ : ∃ q, q = L.flanks.all (flankT L) := ⟨_, rfl⟩
    rw [← hq1] at hcs
    rw [← hq2] at hcf
    rw [← hq1, ← hq2] at HR
    have HMIN := Lib.hid hmin
    have HMAX := Lib.hid hmax
    have HCS := Lib.hid hcs
    have HCF := Lib.hid hcf
    clear hmin hmax hcs hcf hq1 hq2
    go_wp2_with fail
    (with_reducible refine HMIN.out.mono ?_)
    rintro e w1 ⟨m, rfl, hm1, hm2, rfl⟩
    have HM := Lib.hid (⟨hm1, hm2⟩ : _ ∧ _)
    clear hm1 hm2
    by_cases g1 : m < 1
    · obtain rfl : r = false := HR.out.2.2.1 (by
        unfold timesT
        rw [List.all_eq_false]
        exact ⟨m, HM.out.1, by simp; omega⟩)
      go_wp2_with fail
      refine wp_goto ?_
      refine ⟨rfl, ?_⟩
      go_wp2
      rw [Exit.noGoto_ret]
      exact ⟨⟨[], Marked.nil _ _⟩, fun w' hb hk => ⟨.bool false, by simp [results, Tryd.results18, go_sem], rfl, (HBX.out).trans hb⟩⟩
    · have e1 : decide (m < 1) = false := decide_eq_false g1
      go_wp2_with fail
      (with_reducible refine HMAX.out.mono ?_)
      rintro e w1 ⟨k, rfl, hk1, hk2, rfl⟩
      have HK := Lib.hid (⟨hk1, hk2⟩ : _ ∧ _)
      clear hk1 hk2
      by_cases g2 : 1000 < k
      · obtain rfl : r = false := HR.out.2.2.1 (by
          unfold timesT
          rw [List.all_eq_false]
          exact ⟨k, HK.out.1, by simp; omega⟩)
        have e2 : decide ((1000 : Int) < k) = true := decide_eq_true g2
        go_wp2_with fail
        refine wp_goto ?_
        refine ⟨rfl, ?_⟩
        go_wp2
        rw [Exit.noGoto_ret]
        exact ⟨⟨[], Marked.nil _ _⟩, fun w' hb hk => ⟨.bool false, by simp [results, Tryd.results18, go_sem], rfl, (HBX.out).trans hb⟩⟩
      · have e2 : decide ((1000 : Int) < k) = false := decide_eq_false g2
        have ht : timesT L = true := by
          rw [times_min HM.out.1 HM.out.2 HK.out.1 HK.out.2]
          simp
          omega
        have HTT := Lib.hid ht
        clear ht
        go_wp2_with fail
        (with_reducible refine (HCS.out _ (Below.refl _ _)).mono ?_)
        rintro e W1 ⟨rfl, b1⟩
        cases q1 with
        | false =>
          obtain rfl : r = false := HR.out.2.2.2.1 rfl
          have B1 := bchain HBX.out b1
          clear b1
          go_wp2_with fail
          refine wp_goto ?_
          refine ⟨rfl, ?_⟩
          go_wp2
          rw [Exit.noGoto_ret]
          exact ⟨⟨[], Marked.nil _ _⟩, fun w' hb hk => ⟨.bool false, by simp [results, Tryd.results18, go_sem], rfl, (B1).trans hb⟩⟩
        | true =>
          have HB1 := Lib.hid b1
          have lX1 : w.heap.size < W1.heap.size := Nat.lt_of_lt_of_le lX b1.size
          have x3 := (b1.cell (p := ⟨w.heap.size, 3, none⟩) lX).trans c3
          clear b1 c0 c1 c2 c3
          go_wp2_with fail
          (with_reducible refine (HCF.out _ HB1.out).mono ?_)
          rintro e W2 ⟨rfl, b2⟩
          have HB2 := Lib.hid (bchain HB1.out b2)
          have lX2 : w.heap.size < W2.heap.size := Nat.lt_of_lt_of_le lX1 b2.size
          clear b2 x3 HB1
          cases q2 with
          | false =>
            obtain rfl : r = false := HR.out.2.2.2.2.1 rfl
            have B1 := bchain HBX.out HB2.out
            go_wp2_with fail
            refine wp_goto ?_
            refine ⟨rfl, ?_⟩
            go_wp2
            rw [Exit.noGoto_ret]
            exact ⟨⟨[], Marked.nil _ _⟩, fun w' hb hk => ⟨.bool false, by simp [results, Tryd.results18, go_sem], rfl, (B1).trans hb⟩⟩
          | true =>
            have hbox2 := HBo.out.below HB2.out
            have c0 : W2.cell? ⟨w.heap.size, 0, none⟩ = some (.slice a0 L.secs.length p0) := hbox2.2 0 _ rfl
            have c1 : W2.cell? ⟨w.heap.size, 1, none⟩ = some (.slice a1 L.sigs.length p1) := hbox2.2 1 _ rfl
            have c2 : W2.cell? ⟨w.heap.size, 2, none⟩ = some (.slice a2 L.exits.length p2) := hbox2.2 2 _ rfl
            have c3 : W2.cell? ⟨w.heap.size, 3, none⟩ = some (.slice a3 L.flanks.length p3) := hbox2.2 3 _ rfl
            have c4 : W2.cell? ⟨w.heap.size, 4, none⟩ = some (.int .i64 L.t0) := hbox2.2 4 _ rfl
            have c5 : W2.cell? ⟨w.heap.size, 5, none⟩ = some (.int .i64 L.t1) := hbox2.2 5 _ rfl
            have c6 : W2.cell? ⟨w.heap.size, 6, none⟩ = some (.int .i64 L.t2) := hbox2.2 6 _ rfl
            have c7 : W2.cell? ⟨w.heap.size, 7, none⟩ = some (.int .i64 L.t3) := hbox2.2 7 _ rfl
            have c8 : W2.cell? ⟨w.heap.size, 8, none⟩ = some (.int .i64 L.t4) := hbox2.2 8 _ rfl
            have c9 : W2.cell? ⟨w.heap.size, 9, none⟩ = some (.int .i64 L.t5) := hbox2.2 9 _ rfl
            have c10 : W2.cell? ⟨w.heap.size, 10, none⟩ = some (.int .i64 L.t6) := hbox2.2 10 _ rfl
            have hpf := ports_fn L ⟨a0, a1, a2, a3, p0, p1, p2, p3⟩ W2
            unfold Lay.val at hpf
            have HPF := Lib.hid hpf
            clear hbox2 hpf
            go_wp2_with fail
            (with_reducible refine HPF.out.mono ?_)
            rintro e W3 ⟨rfl, rfl⟩
            go_wp2_with fail
            have hBV : Below w.heap.size w (W2.alloc (.cells (L.cells ⟨a0, a1, a2, a3, p0, p1, p2, p3⟩).toArray 29)) := bchain (bchain HBX.out HB2.out) bself
            have hbV : Box (W2.alloc (.cells (L.cells ⟨a0, a1, a2, a3, p0, p1, p2, p3⟩).toArray 29)) W2.heap.size L ⟨a0, a1, a2, a3, p0, p1, p2, p3⟩ := ⟨by simp, fun i v hv => by simpa [go_sem] using hv⟩
            have hbo : Box (W2.alloc (.cells (L.cells ⟨a0, a1, a2, a3, p0, p1, p2, p3⟩).toArray 29)) w.heap.size L ⟨a0, a1, a2, a3, p0, p1, p2, p3⟩ := HBo.out.below (bchain HB2.out bself)
            have hlV : W2.heap.size + 1 = (W2.alloc (.cells (L.cells ⟨a0, a1, a2, a3, p0, p1, p2, p3⟩).toArray 29)).heap.size := by simp
            generalize (W2.alloc (.cells (L.cells ⟨a0, a1, a2, a3, p0, p1, p2, p3⟩).toArray 29)) = V at hBV hbV hbo hlV ⊢
            have HBV := Lib.hid hBV
            have HBO := Lib.hid hbo
            have HLV := Lib.hid (HL.out.below hBV)
            have HKV := Lib.hid (KH.out.below hBV)
            have hlw : w.heap.size ≤ V.heap.size := hBV.size
            clear c0 c1 c2 c3 c4 c5 c6 c7 c8 c9 c10 HPF HB2
            refine wp_range_box (gf := 70) (lb := #[.pointer (some ⟨W2.heap.size, 0, none⟩)]) rfl (enters_of Tryd.func70 (by kernel_rfl) rfl) (fun x : Prt => x.enc) 8
              (ports_stops L ⟨a0, a1, a2, a3, p0, p1, p2, p3⟩ W2.heap.size _ HLV.out hbV) (fun _ => rfl) (PI L) (PX L) (fun _ h => (by cases h)) ?assign ?body ?done ?stop
            case assign =>
              intro l x W Kn hK
              gi_wp2
              refine hK _ _ bself ⟨W.heap.size, by first | rfl | simp [go_sem], by simp, fun i v hv => ?_⟩
              simpa [go_sem, Prt.enc] using hv
            case body =>
              rintro l pre x bx W hb hi lbx hcs hlen
              have k0 : W.cell? ⟨bx, 0, none⟩ = some (.int .i64 x.s) := hcs 0 _ rfl
              have k1 : W.cell? ⟨bx, 1, none⟩ = some (.int .i64 x.p) := hcs 1 _ rfl
              clear hcs
              have hbx := HBO.out.below hb
              have lg := hbx.1
              have c0 : W.cell? ⟨w.heap.size, 0, none⟩ = some (.slice a0 L.secs.length p0) := hbx.2 0 _ rfl
              have c1 : W.cell? ⟨w.heap.size, 1, none⟩ = some (.slice a1 L.sigs.length p1) := hbx.2 1 _ rfl
              have c2 : W.cell? ⟨w.heap.size, 2, none⟩ = some (.slice a2 L.exits.length p2) := hbx.2 2 _ rfl
              have c3 : W.cell? ⟨w.heap.size, 3, none⟩ = some (.slice a3 L.flanks.length p3) := hbx.2 3 _ rfl
              have c4 : W.cell? ⟨w.heap.size, 4, none⟩ = some (.int .i64 L.t0) := hbx.2 4 _ rfl
              have c5 : W.cell? ⟨w.heap.size, 5, none⟩ = some (.int .i64 L.t1) := hbx.2 5 _ rfl
              have c6 : W.cell? ⟨w.heap.size, 6, none⟩ = some (.int .i64 L.t2) := hbx.2 6 _ rfl
              have c7 : W.cell? ⟨w.heap.size, 7, none⟩ = some (.int .i64 L.t3) := hbx.2 7 _ rfl
              have c8 : W.cell? ⟨w.heap.size, 8, none⟩ = some (.int .i64 L.t4) := hbx.2 8 _ rfl
              have c9 : W.cell? ⟨w.heap.size, 9, none⟩ = some (.int .i64 L.t5) := hbx.2 9 _ rfl
              have c10 : W.cell? ⟨w.heap.size, 10, none⟩ = some (.int .i64 L.t6) := hbx.2 10 _ rfl
              have hat := at_any L ⟨a0, a1, a2, a3, p0, p1, p2, p3⟩ x.s x.p W (HLV.out.below hb) (HKV.out.below hb)
              have hh : hasB L x.s x.p = (atO L x.s x.p).isSome := rfl
              unfold Lay.val atV Sec.enc at hat
              obtain ⟨xs, xp⟩ := x
              dsimp only at k0 k1 hat hh
              generalize (atO L xs xp).getD zeroSec = z at hat
              generalize (atO L xs xp).isSome = y at hat hh
              have HAT := Lib.hid hat
              have HH := Lib.hid hh
              have HI := Lib.hid hi
              clear hbx hat hh hi
              gi_wp2_with fail
              refine ⟨trivial, (callsIn_wide.2 HAT.out).mono ?_⟩
              rintro e W4 ⟨rfl, b4⟩
              cases y with
              | true =>
                gi_wp2
                refine ⟨bchain b4 bself, fun t ht => ?_⟩
                rcases List.mem_append.1 ht with ht | ht
                · exact HI.out t ht
                · rw [List.mem_singleton.1 ht]; exact HH.out
              | false =>
                gi_wp2
                refine wpIn_goto ?_
                exact ⟨bchain b4 bself, rfl, ⟨xs, xp⟩, by simp, HH.out⟩
            case stop =>
              rintro D c pre W hD hS hw ⟨rfl, x, hx, hf⟩ hK
              obtain rfl : r = false := HR.out.2.2.2.2.2 (by
                unfold portsT
                rw [List.all_eq_false]
                exact ⟨x, hS.subset hx, by rw [hf]; simp⟩)
              have hB := bchain HBV.out hw
              refine wp_goto ?_
              refine ⟨rfl, ?_⟩
              dsimp only
              go_wp2
              try rw [Exit.noGoto_ret]
              refine ⟨⟨[D], ⟨rfl, by simp, ?held⟩⟩, fun w' hb hk => ⟨.bool false, by simp [results, Tryd.results18, go_sem], rfl, hB.trans hb⟩⟩
              case held =>
                rintro D' h
                simp only [List.mem_cons, List.not_mem_nil, or_false] at h
                subst h
                exact ⟨by omega, hK⟩
            case done =>
              rintro D ys W hD rfl hw hi hK
              have hpt : portsT L = true := by
                unfold portsT
                rw [List.all_eq_true]
                exact hi
              have HPT := Lib.hid hpt
              have HW := Lib.hid hw
              have HKD := Lib.hid hK
              have hbx := HBO.out.below hw
              have lg := hbx.1
              have c2 : W.cell? ⟨w.heap.size, 2, none⟩ = some (.slice a2 L.exits.length p2) := hbx.2 2 _ rfl
              clear hpt hw hi hK hbx
              dsimp only
              go_wp2_with fail
              go_loopg [88] L.exits.length (fun gg s88 wr => ∃ n : Nat, n ≤ L.exits.length ∧ L.exits.length - n ≤ gg ∧ s88 = .int .i64 n ∧ Hid (Below W.heap.size W wr) ∧ Hid (∀ (j : Nat), j < n → ∀ y, L.exits[j]? = some y → overT L y = true))
              case atStart => exact ⟨0, Nat.zero_le _, by omega, rfl, Lib.hid (Below.refl _ _), Lib.hid (fun j hj => absurd hj (Nat.not_lt_zero _))⟩
              case round =>
                obtain ⟨n, hn, hg, rfl, HBr, HJ⟩ := hrel
                clear c2
                have hBw := bchain HBV.out (bchain HW.out HBr.out)
                have lgr : w.heap.size < wr.heap.size := by have := hBw.size; have := hlw; have := HBr.out.size; omega
                have hKr : wr.heap[D]? = some (.deferred (some [])) := (HBr.out.block D (Array.getElem?_eq_some_iff.1 HKD.out).1).trans HKD.out
                have HKR := Lib.hid hKr
                have HBW := Lib.hid hBw
                clear hKr hBw
                by_cases hlt : n < L.exits.length
                · obtain ⟨es, hes, hAt, hov⟩ := (HL.out.below HBW.out).exits
                  have hlen : es.length = L.exits.length := by rw [← hes, List.length_map]
                  obtain ⟨b, off, hAe, hrow⟩ := hAt.get (j := n) (by omega)
                  dsimp only at hAe
                  subst hAe
                  obtain ⟨y, hy⟩ : ∃ y, es[n]? = some y := ⟨es[n]'(by omega), List.getElem?_eq_getElem (by omega)⟩
                  have hx : L.exits[n]? = some y.1 := by rw [← hes, List.getElem?_map, hy]; rfl
                  have k0 : wr.cell? ⟨b, off + n * 3, none⟩ = some (.int .i64 y.1.s) := hrow.2 n y hy 0 _ rfl
                  have k1 : wr.cell? ⟨b, off + n * 3 + 1, none⟩ = some (.int .i64 y.1.p) := hrow.2 n y hy 1 _ rfl
                  have k2 : wr.cell? ⟨b, off + n * 3 + 2, none⟩ = some y.2 := hrow.2 n y hy 2 _ rfl
                  obtain ⟨vA, vc, ve, hvl, hvm, hva⟩ := hov y (List.mem_of_getElem? hy)
                  have hover : overT L y.1 = (decide (y.1.over.length ≤ 2) && y.1.over.all (fun s => stepB L s.s s.i s.o)) := rfl
                  have hcst : ∀ W', Below wr.heap.size wr W' → Calls Tryd.prog 44 #[.slice vA y.1.over.length vc, .func (.func 36) #[] #[.pointer (some ⟨w.heap.size, 0, none⟩)]] W' fun e w' => e = .returned (.bool (y.1.over.any (fun s => !stepB L s.s s.i s.o))) ∧ Below W'.heap.size W' w' := fun W' hW' =>
                    containsStep_any 36 #[.pointer (some ⟨w.heap.size, 0, none⟩)] (enters_of Tryd.func36 (by kernel_rfl) rfl) (fun s => !stepB L s.s s.i s.o) vA vc y.1.over W' (hva.below hW') hvl hvm
                      (fun W'' s _ hb => right2_any L _ s.s s.i s.o w.heap.size W'' (HL.out.below (bchain (bchain HBW.out hW') hb)) (KH.out.below (bchain (bchain HBW.out hW') hb)) (HBO.out.below (bchain (bchain (bchain HW.out HBr.out) hW') hb)))
                  rw [any_not] at hcst
                  have hx1 : overT L y.1 = false → L.exits.all (overT L) = false := fun h => by rw [List.all_eq_false]; exact ⟨y.1, List.mem_of_getElem? hx, by rw [h]; simp⟩
                  have HX := Lib.hid (⟨hx, hx1⟩ : _ ∧ _)
                  rw [ve] at k2
                  obtain ⟨m, hm⟩ : ∃ m, m = y.1.over.length := ⟨_, rfl⟩
                  obtain ⟨ov, hov'⟩ : ∃ o, o = overT L y.1 := ⟨_, rfl⟩
                  obtain ⟨al, hal⟩ : ∃ o, o = y.1.over.all (fun s => stepB L s.s s.i s.o) := ⟨_, rfl⟩
                  rw [← hm] at k2
                  rw [← hm, ← hal] at hcst
                  rw [← hm, ← hal, ← hov'] at hover
                  rw [← hov'] at HX
                  have HOV := Lib.hid (⟨hover, hov'⟩ : _ ∧ _)
                  have HCST := Lib.hid hcst
                  have lb := hrow.1
                  have hm2 : m ≤ 9223372036854775807 := by
                    rw [hm]
                    exact Nat.le_trans hvl hvm
                  generalize y.1.s = es1 at k0
                  generalize y.1.p = ep1 at k1
                  clear hes hAt hov hlen hrow hy hx hx1 ve hvl hvm hva hcst hm hal hov' hover
                  by_cases g1 : 2 < m
                  · have hof : ov = false := by rw [HOV.out.1, decide_eq_false (by omega)]; rfl
                    obtain rfl : r = false := (HR.out.1 HS.out HTT.out (by simp) (by simp) HPT.out).trans (HX.out.2 hof)
                    have d1 : decide ((2 : Int) < (m : Int)) = true := decide_eq_true (by omega)
                    go_wp2_with fail
                    refine wp_goto ?_
                    refine ⟨rfl, ?_⟩
                    go_wp2
                    rw [Exit.noGoto_ret]
                    refine ⟨⟨[D], ⟨rfl, by simp, ?held⟩⟩, fun w' hb hk => ⟨.bool false, by simp [results, Tryd.results18, go_sem], rfl, (bchain HBW.out bself).trans hb⟩⟩
                    case held =>
                      rintro D' h
                      simp only [List.mem_cons, List.not_mem_nil, or_false] at h
                      subst h
                      exact ⟨by omega, (bself.block _ (Array.getElem?_eq_some_iff.1 HKR.out).1).trans HKR.out⟩
                  · have d1 : decide ((2 : Int) < (m : Int)) = false := decide_eq_false (by omega)
                    go_wp2_with fail
                    (with_reducible refine (HCST.out _ bself).mono ?_)
                    rintro e W5 ⟨rfl, b5⟩
                    have HB5 := Lib.hid (bnew b5)
                    clear b5
                    cases al with
                    | false =>
                      have hof : ov = false := by rw [HOV.out.1]; simp
                      obtain rfl : r = false := (HR.out.1 HS.out HTT.out (by simp) (by simp) HPT.out).trans (HX.out.2 hof)
                      go_wp2_with fail
                      refine wp_goto ?_
                      refine ⟨rfl, ?_⟩
                      go_wp2
                      rw [Exit.noGoto_ret]
                      refine ⟨⟨[D], ⟨rfl, by simp, ?held⟩⟩, fun w' hb hk => ⟨.bool false, by simp [results, Tryd.results18, go_sem], rfl, (bchain HBW.out HB5.out).trans hb⟩⟩
                      case held =>
                        rintro D' h
                        simp only [List.mem_cons, List.not_mem_nil, or_false] at h
                        subst h
                        exact ⟨by omega, (HB5.out.block _ (Array.getElem?_eq_some_iff.1 HKR.out).1).trans HKR.out⟩
                    | true =>
                      have hot : ov = true := by rw [HOV.out.1, decide_eq_true (by omega)]; rfl
                      go_wp2
                      go_roundg (L.exits.length - (n + 1))
                      case measure => omega
                      case rel =>
                        refine ⟨n + 1, by omega, by omega, by go_num, Lib.hid (bchain HBr.out HB5.out), Lib.hid (fun j hj z hz => ?_)⟩
                        by_cases e : j = n
                        · subst e
                          rw [HX.out.1] at hz
                          cases hz
                          rw [← HOV.out.2]
                          exact hot
                        · exact HJ.out j (by omega) z hz
                · obtain rfl : n = L.exits.length := by omega
                  have hall : L.exits.all (overT L) = true := by
                    rw [List.all_eq_true]
                    intro x hx
                    obtain ⟨j, hj, e⟩ := List.mem_iff_getElem.1 hx
                    exact HJ.out j hj x (by rw [← e]; exact List.getElem?_eq_getElem hj)
                  obtain rfl : r = true := (HR.out.1 HS.out HTT.out (by simp) (by simp) HPT.out).trans hall
                  go_wp2
                  rw [Exit.fwd_ret]
                  refine ⟨⟨[D], ⟨rfl, by simp, ?held⟩⟩, fun w' hb hk => ⟨.bool true, by simp [results, Tryd.results18, go_sem], rfl, HBW.out.trans hb⟩⟩
                  case held =>
                    rintro D' h
                    simp only [List.mem_cons, List.not_mem_nil, or_false] at h
                    subst h
                    exact ⟨by omega, HKR.out⟩
end Go.Proofs.YtkphihbimdffjaaDoor
