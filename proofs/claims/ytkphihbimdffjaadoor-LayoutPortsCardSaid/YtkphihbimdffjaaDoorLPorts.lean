/-
  The walk of LayoutPorts.
-/
import Derived.Test.YtkphihbimdffjaaDoorWakes
import Derived.Test.YtkphihbimdffjaaDoorBox
import Derived.Deep.DeepCutAuto
namespace Go.Proofs.YtkphihbimdffjaaDoor
open Go.RowKit Go.Shelf

theorem run_alloc_sec {ρ : Operand → Value} {dst : Option Tmp} {ty : TypeId} {pos : String} {after : Array Edge} {guard : Option (Nat × Bool)} {W : World} :
    (execOp ρ ⟨dst, .alloc 39, ty, pos, after, guard⟩).run Tryd.prog W = .ok (.value (.pointer (some ⟨W.heap.size, 0, none⟩))) (W.alloc (.cells zeroSec.enc.toArray 39)) := by
  simp [go_sem, zeroSec, Sec.enc]
theorem store_sec {U : World} {ρ : Operand → Value} {dst : Option Tmp} {ty : TypeId} {pos : String} {after : Array Edge} {guard : Option (Nat × Bool)} {W : World} {t u b : Nat} {x : Sec} (h1 : ρ (.tmp t) = .pointer (some ⟨b, 0, none⟩)) (h2 : ρ (.tmp u) = .agg x.enc.toArray) (hb : U.heap.size ≤ b)
    (hc : ∀ i, i < 11 → (∃ x, W.cell? ⟨b, i, none⟩ = some x) ∧ W.frozen? ⟨b, i, none⟩ = false) (hC : ClB U W) : relUpon Tryd.prog (ClB U) (StX U) W (fun _ _ => True) ((execOp ρ ⟨dst, .store 39 (.tmp t) (.tmp u), ty, pos, after, guard⟩).run Tryd.prog W) := by
  obtain ⟨⟨x0, k0⟩, f0⟩ := hc 0 (by omega)
  obtain ⟨⟨x1, k1⟩, f1⟩ := hc 1 (by omega)
  obtain ⟨⟨x2, k2⟩, f2⟩ := hc 2 (by omega)
  obtain ⟨⟨x3, k3⟩, f3⟩ := hc 3 (by omega)
  obtain ⟨⟨x4, k4⟩, f4⟩ := hc 4 (by omega)
  obtain ⟨⟨x5, k5⟩, f5⟩ := hc 5 (by omega)
  obtain ⟨⟨x6, k6⟩, f6⟩ := hc 6 (by omega)
  obtain ⟨⟨x7, k7⟩, f7⟩ := hc 7 (by omega)
  obtain ⟨⟨x8, k8⟩, f8⟩ := hc 8 (by omega)
  obtain ⟨⟨x9, k9⟩, f9⟩ := hc 9 (by omega)
  obtain ⟨⟨x10, k10⟩, f10⟩ := hc 10 (by omega)
  unfold Sec.enc at h2
  clear hc
  have e : (execOp ρ ⟨dst, .store 39 (.tmp t) (.tmp u), ty, pos, after, guard⟩).run Tryd.prog W = .ok .skip (((((((((((W.setCell ⟨b, 0, none⟩ (.int .u8 x.k)).setCell ⟨b, 1, none⟩ (.int .i64 x.s0)).setCell ⟨b, 2, none⟩ (.int .i64 x.p0)).setCell ⟨b, 3, none⟩ (.int .i64 x.s1)).setCell ⟨b, 4, none⟩ (.int .i64 x.p1)).setCell ⟨b, 5, none⟩ (.int .i64 x.s2)).setCell ⟨b, 6, none⟩ (.int .i64 x.p2)).setCell ⟨b, 7, none⟩ (.int .i64 x.s3)).setCell ⟨b, 8, none⟩ (.int .i64 x.p3)).setCell ⟨b, 9, none⟩ (.int .i64 x.c0)).setCell ⟨b, 10, none⟩ (.int .i64 x.c1)) := by
    simp [go_sem, h1, h2, k0, k1, k2, k3, k4, k5, k6, k7, k8, k9, k10, f0, f1, f2, f3, f4, f5, f6, f7, f8, f9, f10]
  have hX : StX U W (((((((((((W.setCell ⟨b, 0, none⟩ (.int .u8 x.k)).setCell ⟨b, 1, none⟩ (.int .i64 x.s0)).setCell ⟨b, 2, none⟩ (.int .i64 x.p0)).setCell ⟨b, 3, none⟩ (.int .i64 x.s1)).setCell ⟨b, 4, none⟩ (.int .i64 x.p1)).setCell ⟨b, 5, none⟩ (.int .i64 x.s2)).setCell ⟨b, 6, none⟩ (.int .i64 x.p2)).setCell ⟨b, 7, none⟩ (.int .i64 x.s3)).setCell ⟨b, 8, none⟩ (.int .i64 x.p3)).setCell ⟨b, 9, none⟩ (.int .i64 x.c0)).setCell ⟨b, 10, none⟩ (.int .i64 x.c1)) := (((((((((((StX.refl U W).trans (StX.set hb)).trans (StX.set hb)).trans (StX.set hb)).trans (StX.set hb)).trans (StX.set hb)).trans (StX.set hb)).trans (StX.set hb)).trans (StX.set hb)).trans (StX.set hb)).trans (StX.set hb)).trans (StX.set hb)
  rw [e]
  exact ⟨hC.stepX hX, hX, trivial⟩

/-- What a layout whose numbers may be is like. -/
theorem right_law {L : Lay} (h : rightL L = true) : L.secs.length ≤ 24 ∧ (∀ (n : Nat) (c : Sec), L.secs[n]? = some c → ∀ i, i < 4 → hasB L (c.S i) (c.P i) = decide (0 ≤ c.S i)) ∧ (∀ (n : Nat) (x : Prt), L.sigs[n]? = some x → hasB L x.s x.p = true) ∧
    (∀ (n : Nat) (x : Ext'), L.exits[n]? = some x → hasB L x.s x.p = true ∧ ∀ (k : Nat) (s : Stp), x.over[k]? = some s → stepB L s.s s.i s.o = true) := by
  unfold rightL sizesT at h
  simp only [Bool.and_eq_true, decide_eq_true_eq] at h
  obtain ⟨⟨⟨⟨⟨⟨⟨⟨h1, _⟩, _⟩, _⟩, _⟩, _⟩, _⟩, h2⟩, h3⟩ := h
  have hp : ∀ x ∈ portsL L, hasB L x.s x.p = true := fun x hx => List.all_eq_true.1 h2 x hx
  refine ⟨h1, fun n c hc i hi => ?_, fun n x hx => hp x ?_, fun n x hx => ⟨hp ⟨x.s, x.p⟩ ?_, fun k s hs => ?_⟩⟩
  · by_cases hS : 0 ≤ c.S i
    · rw [decide_eq_true hS]
      refine hp ⟨c.S i, c.P i⟩ ((pre_secs (List.getElem?_eq_some_iff.1 hc).1 hc (i := i + 1) (by omega)).subset ?_)
      simp [jn, hS]
    · rw [decide_eq_false hS]
      unfold hasB atO
      rw [secAt_none (by omega)]
      rfl
  · unfold portsL
    simp [List.mem_of_getElem? hx]
  · unfold portsL
    simp only [List.mem_append, List.mem_map]
    exact .inr (.inr ⟨x, List.mem_of_getElem? hx, rfl⟩)
  · have := List.all_eq_true.1 h3 x (List.mem_of_getElem? hx)
    unfold overT at this
    simp only [Bool.and_eq_true] at this
    exact List.all_eq_true.1 this.2 s (List.mem_of_getElem? hs)
theorem at_port (L : Lay) (n m : Nat) (c : Sec) (hc : L.secs[n]? = some c) : ((m : Int) < kPorts c.k ∧ atO L n m = some c) ∨ (¬ (m : Int) < kPorts c.k ∧ atO L n m = none) := by
  unfold atO secAt
  rw [if_pos (by omega), Int.toNat_natCast, hc, Option.bind_some]
  by_cases h : (m : Int) < kPorts c.k
  · exact .inl ⟨h, if_pos ⟨by omega, h⟩⟩
  · exact .inr ⟨h, if_neg (by omega)⟩

/-- A section in a variable. -/
def BoxS (W : World) (g : Nat) (c : Sec) : Prop := g < W.heap.size ∧ ∀ (i : Nat) (v : Value), c.enc[i]? = some v → W.cell? ⟨g, i, none⟩ = some v
theorem BoxS.below {W W' : World} {g : Nat} {c : Sec} (h : BoxS W g c) (hb : Below W.heap.size W W') : BoxS W' g c :=
  ⟨Nat.lt_of_lt_of_le h.1 hb.size, fun i v e => (hb.cell (p := ⟨g, i, none⟩) h.1).trans (h.2 i v e)⟩
theorem BoxS.make (W : World) (c : Sec) : BoxS (W.alloc (.cells c.enc.toArray 39)) W.heap.size c :=
  ⟨by simp, fun i v e => by rw [World.cell?_alloc_at _ _ _ _ rfl]; simpa using e⟩
theorem BoxS.cells {W : World} {g : Nat} {c : Sec} (h : BoxS W g c) : W.cell? ⟨g, 0, none⟩ = some (.int .u8 c.k) ∧ W.cell? ⟨g, 1, none⟩ = some (.int .i64 c.s0) ∧ W.cell? ⟨g, 2, none⟩ = some (.int .i64 c.p0) ∧ W.cell? ⟨g, 3, none⟩ = some (.int .i64 c.s1) ∧ W.cell? ⟨g, 4, none⟩ = some (.int .i64 c.p1) ∧ W.cell? ⟨g, 5, none⟩ = some (.int .i64 c.s2) ∧ W.cell? ⟨g, 6, none⟩ = some (.int .i64 c.p2) ∧ W.cell? ⟨g, 7, none⟩ = some (.int .i64 c.s3) ∧ W.cell? ⟨g, 8, none⟩ = some (.int .i64 c.p3) ∧ W.cell? ⟨g, 9, none⟩ = some (.int .i64 c.c0) ∧ W.cell? ⟨g, 10, none⟩ = some (.int .i64 c.c1) :=
  ⟨h.2 0 _ rfl, h.2 1 _ rfl, h.2 2 _ rfl, h.2 3 _ rfl, h.2 4 _ rfl, h.2 5 _ rfl, h.2 6 _ rfl, h.2 7 _ rfl, h.2 8 _ rfl, h.2 9 _ rfl, h.2 10 _ rfl⟩
theorem BoxS.ports {W : World} {g : Nat} {c : Sec} (h : BoxS W g c) (m : Nat) (hm : m < 4) : W.cell? ⟨g, 1 + m * 2, none⟩ = some (.int .i64 (c.S m)) ∧ W.cell? ⟨g, 1 + m * 2 + 1, none⟩ = some (.int .i64 (c.P m)) := by
  obtain rfl | rfl | rfl | rfl : m = 0 ∨ m = 1 ∨ m = 2 ∨ m = 3 := by omega
  · exact ⟨h.2 1 _ rfl, h.2 2 _ rfl⟩
  · exact ⟨h.2 3 _ rfl, h.2 4 _ rfl⟩
  · exact ⟨h.2 5 _ rfl, h.2 6 _ rfl⟩
  · exact ⟨h.2 7 _ rfl, h.2 8 _ rfl⟩
theorem BoxL.cells {W : World} {g : Nat} {L : Lay} {p : Where} (h : BoxL W g L p) : W.cell? ⟨g, 0, none⟩ = some (.slice p.a0 L.secs.length p.c0) ∧ W.cell? ⟨g, 1, none⟩ = some (.slice p.a1 L.sigs.length p.c1) ∧ W.cell? ⟨g, 2, none⟩ = some (.slice p.a2 L.exits.length p.c2) ∧ W.cell? ⟨g, 3, none⟩ = some (.slice p.a3 L.flanks.length p.c3) ∧ W.cell? ⟨g, 4, none⟩ = some (.int .i64 L.t0) ∧ W.cell? ⟨g, 5, none⟩ = some (.int .i64 L.t1) ∧ W.cell? ⟨g, 6, none⟩ = some (.int .i64 L.t2) ∧ W.cell? ⟨g, 7, none⟩ = some (.int .i64 L.t3) ∧ W.cell? ⟨g, 8, none⟩ = some (.int .i64 L.t4) ∧ W.cell? ⟨g, 9, none⟩ = some (.int .i64 L.t5) ∧ W.cell? ⟨g, 10, none⟩ = some (.int .i64 L.t6) :=
  ⟨h.2 0 _ rfl, h.2 1 _ rfl, h.2 2 _ rfl, h.2 3 _ rfl, h.2 4 _ rfl, h.2 5 _ rfl, h.2 6 _ rfl, h.2 7 _ rfl, h.2 8 _ rfl, h.2 9 _ rfl, h.2 10 _ rfl⟩

set_option maxRecDepth 100000 in
theorem eql_join9 (x0 x1 x2 x3 x4 x5 x6 x7 y0 y1 y2 y3 y4 y5 y6 y7 : Int) (w : World) : (Op.equalIn 9999 36 (.agg #[.int .i64 x0, .int .i64 x1, .int .i64 x2, .int .i64 x3, .int .i64 x4, .int .i64 x5, .int .i64 x6, .int .i64 x7]) (.agg #[.int .i64 y0, .int .i64 y1, .int .i64 y2, .int .i64 y3, .int .i64 y4, .int .i64 y5, .int .i64 y6, .int .i64 y7])).run Tryd.prog w =
    .ok (x0 == y0 && x1 == y1 && (x2 == y2 && x3 == y3) && (x4 == y4 && x5 == y5) && (x6 == y6 && x7 == y7)) w := by
  obtain ⟨i, hi⟩ := info_port
  have h := run_equalIn_array (P := Tryd.prog) (w := w) (9997 + 1) (t := 36) (e := 31) (n := 4) (i := i) #[.int .i64 x0, .int .i64 x1, .int .i64 x2, .int .i64 x3, .int .i64 x4, .int .i64 x5, .int .i64 x6, .int .i64 x7] #[.int .i64 y0, .int .i64 y1, .int .i64 y2, .int .i64 y3, .int .i64 y4, .int .i64 y5, .int .i64 y6, .int .i64 y7] Tryd.underlying36 hi
  refine h.trans ?_
  rw [cells_port]
  have e := fun a b c d w => eql_port 9996 a b c d w
  simp only [Nat.reduceAdd] at e ⊢
  simp [Op.eqItems, List.range, List.range.loop, go_sem, e]
  repeat' split
  all_goals simp_all
set_option maxRecDepth 100000 in
theorem eql_class9 (x0 x1 y0 y1 : Int) (w : World) : (Op.equalIn 9999 37 (.agg #[.int .i64 x0, .int .i64 x1]) (.agg #[.int .i64 y0, .int .i64 y1])).run Tryd.prog w = .ok (x0 == y0 && x1 == y1) w := by
  obtain ⟨i, hi⟩ := info_int'
  have h := run_equalIn_array (P := Tryd.prog) (w := w) (9997 + 1) (t := 37) (e := 3) (n := 2) (i := i) #[.int .i64 x0, .int .i64 x1] #[.int .i64 y0, .int .i64 y1] Tryd.underlying37 hi
  refine h.trans ?_
  rw [cells_int]
  have e := fun a b w => run_equalIn_int (P := Tryd.prog) w 9997 3 .i64 .i64 a b Tryd.underlying3
  simp only [Nat.reduceAdd] at e ⊢
  simp [Op.eqItems, List.range, List.range.loop, go_sem, e]
  repeat' split
  all_goals simp_all
attribute [local go_sem] eql_join9 eql_class9

set_option maxRecDepth 100000 in
set_option maxHeartbeats 16000000 in
theorem layoutPorts_walk (L : Lay) (p : Where) (w : World) (hL : LayAt w p L) (K : Kinds w) :
    Calls Tryd.prog 5 #[L.val p] w fun e w' => e = .returned (.bool true) ∧ Below w.heap.size w w' := by
  have hG := fun w1 (b : Below w.heap.size w w1) => rGreat_any L p w1 (hL.below b)
  have hR := fun w1 (b : Below w.heap.size w w1) => rightLay_any L p w1 (hL.below b) (K.below b)
  have hW := fun w1 (b : Below w.heap.size w w1) => wakes_any w1 (K.below b)
  have hA := fun (s q : Int) w1 (b : Below w.heap.size w w1) => at_any L p s q w1 (hL.below b) (K.below b)
  have hS := fun (s i o : Int) w1 (b : Below w.heap.size w w1) => step_any L p s i o w1 (hL.below b) (K.below b)
  have hlaw : rightL L = true → _ := right_law
  generalize rightL L = r at *
  have HG := Lib.hid hG
  have HR := Lib.hid hR
  have HW := Lib.hid hW
  have HA := Lib.hid hA
  have HS := Lib.hid hS
  have m0 : L.secs.length ≤ 9223372036854775807 := Nat.le_trans hL.l0.1 hL.l0.2
  have m1 : L.sigs.length ≤ 9223372036854775807 := Nat.le_trans hL.l1.1 hL.l1.2
  have m2 : L.exits.length ≤ 9223372036854775807 := Nat.le_trans hL.l2.1 hL.l2.2
  have HL := Lib.hid hL
  have HQ := Lib.hid hlaw
  clear hG hR hW hA hS K hL hlaw
  obtain ⟨a0, a1, a2, a3, p0, p1, p2, p3⟩ := p
  unfold Lay.val at *
  go_enter Tryd.func5, Tryd.ntmps5
  go_wp2_with fail
  (with_reducible refine (HG.out _ bself).mono ?_)
  rintro e w1 ⟨g, rfl, b1⟩
  obtain ⟨c1, f1, l1⟩ := bcell b1
  have y1 : w.heap.size < w1.heap.size := l1 _ (by simp)
  have B := bchain (bself (w := w) (o := _)) b1
  clear b1 l1 f1
  cases g
  case true =>
    go_wp2_with fail
    (with_reducible refine (HW.out _ B).mono ?_)
    rintro e w2 ⟨rfl, b2⟩
    go_wp2
    go_ret
    exact ⟨rfl, bchain B b2⟩
  go_wp2_with fail
  (with_reducible refine (HR.out _ B).mono ?_)
  rintro e w2 ⟨rfl, b2⟩
  obtain ⟨c2, f2, l2⟩ := bcell b2
  have y2 := l2 _ y1
  replace B := bchain B b2
  clear b2 l2 f2
  cases r
  case false =>
    go_wp2_with fail
    (with_reducible refine (HW.out _ B).mono ?_)
    rintro e w3 ⟨rfl, b3⟩
    go_wp2
    go_ret
    exact ⟨rfl, bchain B b3⟩
  obtain ⟨hn24, q1, q2, q3⟩ := HQ.out rfl
  have HQ1 := Lib.hid q1
  have HQ2 := Lib.hid q2
  have HQ3 := Lib.hid q3
  have cq0 : w2.cell? ⟨w.heap.size, 0, none⟩ = some (.slice a0 L.secs.length p0) := by rw [c2 _ _ y1, c1 _ _ (by simp)]; simp [go_sem]
  have cq1 : w2.cell? ⟨w.heap.size, 1, none⟩ = some (.slice a1 L.sigs.length p1) := by rw [c2 _ _ y1, c1 _ _ (by simp)]; simp [go_sem]
  have cq2 : w2.cell? ⟨w.heap.size, 2, none⟩ = some (.slice a2 L.exits.length p2) := by rw [c2 _ _ y1, c1 _ _ (by simp)]; simp [go_sem]
  have BX : BoxL w2 w.heap.size L ⟨a0, a1, a2, a3, p0, p1, p2, p3⟩ := by
    refine ⟨y2, fun i v e => ?_⟩
    rw [c2 _ _ y1, c1 _ _ (by simp)]
    simpa [go_sem, Lay.cells] using e
  have HB := Lib.hid B
  have HX := Lib.hid BX
  clear q1 q2 q3 HQ c1 c2 B y1 BX HG HR
  go_wp2_with fail
  obtain ⟨Y, rfl⟩ : ∃ Y : World, Y = w2 := ⟨_, rfl⟩
  go_loopw [3] (fun c wr => ∃ n : Nat, n ≤ L.secs.length ∧ c = .int .i64 n ∧ Hid (Below Y.heap.size Y wr)) (fun c _ => L.secs.length - (intOf c).toNat)
  case atStart => exact ⟨0, Nat.zero_le _, rfl, Lib.hid (Below.refl _ _)⟩
  case round =>
    obtain ⟨n, hn, rfl, HBr⟩ := hrel
    have v0 := (HBr.out.cell (p := ⟨w.heap.size, 0, none⟩) y2).trans cq0
    have lv0 : w.heap.size < wr.heap.size := Nat.lt_of_lt_of_le y2 HBr.out.size
    by_cases hlt : n < L.secs.length
    · have hBw := bchain HB.out HBr.out
      obtain ⟨b, off, hAe, hrow⟩ := HL.out.secs.get hlt
      dsimp only at hAe
      subst hAe
      obtain ⟨c, hc⟩ : ∃ c, L.secs[n]? = some c := ⟨L.secs[n], List.getElem?_eq_getElem hlt⟩
      obtain ⟨k0, k1, k2, k3, k4, k5, k6, k7, k8, k9, k10⟩ := sec_cells (hrow.below hBw) hc
      have lb : b < wr.heap.size := Nat.lt_of_lt_of_le hrow.1 hBw.size
      have hap := fun m => at_port L n m c hc
      have hq := HQ1.out n c hc
      have HC := Lib.hid hap
      have HJ := Lib.hid hq
      clear hrow hc hap hq hBw
      go_wp2_with fail
      obtain ⟨G, hG⟩ : ∃ G, G = wr.heap.size := ⟨_, rfl⟩
      obtain ⟨Z, hZ⟩ : ∃ Z, Z = wr.alloc (.cells c.enc.toArray 39) := ⟨_, rfl⟩
      have HZ : wr.alloc (.cells #[.int .u8 c.k, .int .i64 c.s0, .int .i64 c.p0, .int .i64 c.s1, .int .i64 c.p1, .int .i64 c.s2, .int .i64 c.p2, .int .i64 c.s3, .int .i64 c.p3, .int .i64 c.c0, .int .i64 c.c1] 39) = Z := hZ.symm
      have bZ : Below wr.heap.size wr Z := by rw [hZ]; exact bself
      have sZ : BoxS Z G c := by rw [hZ, hG]; exact BoxS.make _ _
      rw [HZ, ← hG]
      have HBZ := Lib.hid (bchain (bchain HB.out HBr.out) bZ)
      have HBYZ := Lib.hid (bchain HBr.out bZ)
      have HXZ := Lib.hid ((HX.out.below HBr.out).below bZ)
      have HSZ := Lib.hid sZ
      clear HZ hZ hG bZ sZ k0 k1 k2 k3 k4 k5 k6 k7 k8 k9 k10 lb v0 lv0 hn
      go_loopw [5] (fun c5 w5 => ∃ m : Nat, m ≤ 4 ∧ c5 = .int .i64 m ∧ Hid (Below Z.heap.size Z w5)) (fun c5 _ => 4 - (intOf c5).toNat)
      case atStart => exact ⟨0, by omega, rfl, Lib.hid (Below.refl _ _)⟩
      case round =>
        obtain ⟨m, hm, rfl, HBm⟩ := hrel
        obtain ⟨V, rfl⟩ : ∃ V : World, V = wr := ⟨_, rfl⟩
        by_cases hm4 : m < 4
        · have xL := HXZ.out.below HBm.out
          have xS := HSZ.out.below HBm.out
          have bV := bchain HBZ.out HBm.out
          obtain ⟨y, by', hy, hyk⟩ : ∃ (y : Sec) (by' : Bool), (∀ w1, Below w.heap.size w w1 → Calls Tryd.prog 10 #[L.val ⟨some ⟨b, off, none⟩, a1, a2, a3, p0, p1, p2, p3⟩, .agg #[.int .i64 n, .int .i64 m]] w1 fun e w' => e = .returned (.tuple #[.agg y.enc.toArray, .bool by']) ∧ Below w1.heap.size w1 w') ∧ ((by' = true ∧ (m : Int) < kPorts c.k ∧ c = y) ∨ (by' = false ∧ ¬ (m : Int) < kPorts c.k)) := by
            refine ⟨_, _, HA.out n m, ?_⟩
            rcases HC.out m with ⟨g, e⟩ | ⟨g, e⟩
            · rw [e]; exact .inl ⟨rfl, g, rfl⟩
            · rw [e]; exact .inr ⟨rfl, by omega⟩
          unfold Sec.enc at hy
          have hB2 := HJ.out m hm4
          obtain ⟨x2, b2, hA2, hb2⟩ : ∃ (x2 : Sec) (b2 : Bool), (∀ w1, Below w.heap.size w w1 → Calls Tryd.prog 10 #[L.val ⟨some ⟨b, off, none⟩, a1, a2, a3, p0, p1, p2, p3⟩, .agg #[.int .i64 (c.S m), .int .i64 (c.P m)]] w1 fun e w' => e = .returned (.tuple #[.agg x2.enc.toArray, .bool b2]) ∧ Below w1.heap.size w1 w') ∧ b2 = decide (0 ≤ c.S m) :=
            ⟨_, _, HA.out (c.S m) (c.P m), hB2⟩
          have hP := fun w1 => rPorts_any c.k w1
          have H1 := Lib.hid hy
          have H2 := Lib.hid hA2
          have HP := Lib.hid hP
          clear hy hA2 hP hB2
          obtain ⟨cS, cP⟩ := xS.ports m hm4
          obtain ⟨t0, t1, t2, t3, t4, t5, t6, t7, t8, t9, t10⟩ := xS.cells
          obtain ⟨r0, r1, r2, r3, r4, r5, r6, r7, r8, r9, r10⟩ := xL.cells
          have lG := xS.1
          have lw := xL.1
          have HXL := Lib.hid xL
          have HXS := Lib.hid xS
          have HBV := Lib.hid bV
          clear xS xL bV
          obtain ⟨d2, hd2⟩ : ∃ d2, decide (0 ≤ c.S m) = d2 := ⟨_, rfl⟩
          obtain rfl : b2 = d2 := hb2.trans hd2
          clear hb2
          rcases hyk with ⟨rfl, hk, hyc⟩ | ⟨rfl, hk⟩
          case' inl => subst hyc
          all_goals
            go_wp2_with fail
            (with_reducible refine (H1.out _ HBV.out).mono ?_)
            rintro e w5 ⟨rfl, b5⟩
            obtain ⟨c5, f5, l5⟩ := bcell b5
            have lG5 := l5 _ lG
            have lw5 := l5 _ lw
            have HB5 := Lib.hid b5
            clear b5 l5 f5
            go_wp2_with fail
            (with_reducible refine (HP.out _).mono ?_)
            rintro e w6 ⟨rfl, b6⟩
            obtain ⟨c6, f6, l6⟩ := bcell b6
            have lG6 := l6 G (by simp; omega)
            have lw6 := l6 w.heap.size (by simp; omega)
            have l56 := l6 w5.heap.size (by simp)
            have HB6 := Lib.hid (bchain (bchain HB5.out bself) b6)
            clear b6 l6 f6
            go_upto_region 13 with fail
            clear c5 c6 t0 t1 t2 t3 t4 t5 t6 t7 t8 t9 t10 r0 r1 r2 r3 r4 r5 r6 r7 r8 r9 r10 cS cP lG5 lw5 l56 lG lw
            have X6 := HXL.out.below HB6.out
            have S6 := HXS.out.below HB6.out
            have z1 : ∀ W, ClB w6 W → W.cell? ⟨G, 1 + m * 2, none⟩ = some (.int .i64 (c.S m)) := fun W h => ((S6.below h).ports m hm4).1
            have z2 : ∀ W, ClB w6 W → W.cell? ⟨G, 1 + m * 2 + 1, none⟩ = some (.int .i64 (c.P m)) := fun W h => ((S6.below h).ports m hm4).2
            have B6 := bchain HBV.out HB6.out
            have hm5 : (m : Int) < 4 := by omega
            refine wp_region_rel_box [([(1, none)], none), ([(5, none)], none), ([(4, none)], none), ([(69, some 0), (68, some 1)], none), ([(70, some 0)], none), ([(67, some 4), (71, some 0)], none), ([(72, some 0)], none), ([(66, some 0)], none), ([(66, some 1)], none), ([], none), ([(8, some 0), (73, some 2)], none), ([(74, some 2)], none)] [(0, 9)] (by kernel_rfl) (by kernel_rfl) ?_
            refine ob_det (c := L.val ⟨some ⟨b, off, none⟩, a1, a2, a3, p0, p1, p2, p3⟩) ?_ ?_
            · intro ρ W hk hC
              simp only [seen, obOp]
              rintro h1
              replace h1 : ρ (.tmp 1) = .pointer (some ⟨w.heap.size, 0, none⟩) := h1.trans rfl
              exact relX_value (runLoad (h1) (X6.below hC)) hC
            refine ob_det (c := .int .i64 (m : Int)) ?_ ?_
            · intro ρ W hk hC
              simp only [seen, obOp]
              rintro h5
              replace h5 : ρ (.tmp 5) = .int .i64 (m : Int) := h5.trans rfl
              exact relX_value (by simp [go_sem, h5]) hC
            refine ob_det (c := .pointer (some ⟨G, 1, none⟩)) ?_ ?_
            · intro ρ W hk hC
              simp only [seen, obOp]
              rintro h4
              replace h4 : ρ (.tmp 4) = .pointer (some ⟨G, 0, none⟩) := h4.trans rfl
              exact relX_value (by simp [go_sem, h4]) hC
            refine ob_det (c := .pointer (some ⟨G, 1 + m * 2, none⟩)) ?_ ?_
            · intro ρ W hk hC
              simp only [seen, obOp, List.getD_cons_zero, List.getD_cons_succ]
              rintro h69 h68
              exact relX_value (by simp [go_sem, h69, h68, hm5]) hC
            refine ob_det (c := .agg #[.int .i64 (c.S m), .int .i64 (c.P m)]) ?_ ?_
            · intro ρ W hk hC
              simp only [seen, obOp, List.getD_cons_zero]
              rintro h70
              exact relX_value (by simp [go_sem, h70, z1 W hC, z2 W hC]) hC
            refine ob_det (c := .tuple #[.agg x2.enc.toArray, .bool b2]) ?_ ?_
            · intro ρ W hk hC
              simp only [seen, obOp, List.getD_cons_zero, List.getD_cons_succ]
              rintro h67 h71
              exact relX_call (f := 10) (args := #[L.val ⟨some ⟨b, off, none⟩, a1, a2, a3, p0, p1, p2, p3⟩, .agg #[.int .i64 (c.S m), .int .i64 (c.P m)]]) (by simp [go_sem, h67, h71, hk.func]) hC (H2.out W (bchain B6 hC))
            refine ob_det (c := .tuple #[.agg x2.enc.toArray, .bool b2]) ?_ ?_
            · intro ρ W hk hC
              simp only [seen, obOp, List.getD_cons_zero]
              rintro h72
              exact relX_value (by simp [go_sem, h72]) hC
            refine ob_det (c := .agg x2.enc.toArray) ?_ ?_
            · intro ρ W hk hC
              simp only [seen, obOp, List.getD_cons_zero]
              rintro h66
              exact relX_value (by simp [go_sem, h66]) hC
            refine ob_det (c := .bool b2) ?_ ?_
            · intro ρ W hk hC
              simp only [seen, obOp, List.getD_cons_zero, List.getD_cons_succ]
              rintro h66
              exact relX_value (by simp [go_sem, h66]) hC
            refine ⟨fun v W => IsBox w6 11 v W, fun v w w' h k => h.step k, ?_, ?_⟩
            · intro ρ W hk hC
              simp only [seen, obOp]
              exact relX_alloc (cs := zeroSec.enc.toArray) run_alloc_sec hC
            refine ⟨fun _ _ => True, fun _ _ _ _ _ => trivial, ?_, ?_⟩
            · intro ρ W hk hC
              simp only [seen, obOp, List.getD_cons_zero, List.getD_cons_succ]
              rintro ⟨g8, h8, hb8, hc8⟩ h73
              exact store_sec (x := x2) h8 h73 hb8 hc8 hC
            refine ob_det (c := .bool b2) ?_ ?_
            · intro ρ W hk hC
              simp only [seen, obOp, List.getD_cons_zero, List.getD_cons_succ]
              rintro h74
              exact relX_value (by simp [go_sem, h74]) hC
            intro vs W9 hC9
            simp only [endSeen, List.getD_cons_zero]
            intro h9
            simp only [writeAll]
            have z9 := z1 W9 hC9
            have lG9 : G < W9.heap.size := Nat.lt_of_lt_of_le lG6 hC9.size
            have HB9 := Lib.hid (bchain (bchain HBm.out HB6.out) hC9)
            clear z1 z2 X6 S6 B6 hC9
            cases b2
            all_goals
              go_wp2
              go_roundw
              case rel => exact ⟨m + 1, by omega, by go_num, HB9⟩
              case measure => simp [intOf]; omega
        obtain rfl : m = 4 := by omega
        go_wp2
        go_roundw
        case rel => exact ⟨n + 1, by omega, by go_num, Lib.hid (bchain HBYZ.out HBm.out)⟩
        case measure => simp [intOf]; omega
    obtain rfl : n = L.secs.length := by omega
    go_wp2_with fail
    clear HQ1 v0 lv0 hlt hn
    obtain ⟨Y1, rfl⟩ : ∃ Y1 : World, Y1 = wr := ⟨_, rfl⟩
    have HBY1 := HBr
    clear HBr
    go_loopw [10] (fun c wr => ∃ n : Nat, n ≤ L.sigs.length ∧ c = .int .i64 n ∧ Hid (Below Y.heap.size Y wr)) (fun c _ => L.sigs.length - (intOf c).toNat)
    case atStart => exact ⟨0, Nat.zero_le _, rfl, HBY1⟩
    case round =>
      obtain ⟨n, hn, rfl, HBr⟩ := hrel
      obtain ⟨V, rfl⟩ : ∃ V : World, V = wr := ⟨_, rfl⟩
      have v1 := (HBr.out.cell (p := ⟨w.heap.size, 1, none⟩) y2).trans cq1
      have lv0 : w.heap.size < V.heap.size := Nat.lt_of_lt_of_le y2 HBr.out.size
      by_cases hlt : n < L.sigs.length
      · have BW := Lib.hid (bchain HB.out HBr.out)
        obtain ⟨b, off, hAe, hrow⟩ := HL.out.sigs.get hlt
        dsimp only at hAe
        subst hAe
        obtain ⟨x, hx⟩ : ∃ x, L.sigs[n]? = some x := ⟨L.sigs[n], List.getElem?_eq_getElem hlt⟩
        have hb2 := HQ2.out n x hx
        obtain ⟨x2, hA2⟩ : ∃ x2 : Sec, (∀ w1, Below w.heap.size w w1 → Calls Tryd.prog 10 #[L.val ⟨a0, some ⟨b, off, none⟩, a2, a3, p0, p1, p2, p3⟩, .agg #[.int .i64 x.s, .int .i64 x.p]] w1 fun e w' => e = .returned (.tuple #[.agg x2.enc.toArray, .bool true]) ∧ Below w1.heap.size w1 w') := by
          have h := HA.out x.s x.p
          unfold atV at h
          unfold hasB at hb2
          rw [hb2] at h
          exact ⟨_, h⟩
        have H2 := Lib.hid hA2
        have XL := Lib.hid (HX.out.below HBr.out)
        have y1 : ∀ W, ClB V W → W.cell? ⟨w.heap.size, 1, none⟩ = some (.slice (some ⟨b, off, none⟩) L.sigs.length p1) := fun W h => (h.cell (p := ⟨w.heap.size, 1, none⟩) lv0).trans v1
        have hr := hrow.below BW.out
        have z1 : ∀ W, ClB V W → W.cell? ⟨b, off + n * 2, none⟩ = some (.int .i64 x.s) := fun W h => (hr.below h).2 n x hx 0 _ rfl
        have z2 : ∀ W, ClB V W → W.cell? ⟨b, off + n * 2 + 1, none⟩ = some (.int .i64 x.p) := fun W h => (hr.below h).2 n x hx 1 _ rfl
        have hnl : (n : Int) < L.sigs.length := by omega
        clear hA2 hb2
        go_upto_region 19 with fail
        refine wp_region_rel_box [([(1, none)], none), ([(1, none)], none), ([(92, some 0)], none), ([(10, none)], none), ([(93, some 1), (94, some 0)], none), ([(95, some 0)], none), ([(96, some 0)], none), ([(91, some 6), (97, some 0)], none), ([(98, some 0)], none), ([(90, some 0)], none), ([(90, some 1)], none), ([], none), ([(11, some 0), (99, some 2)], none), ([(100, some 2)], none)] [(0, 12)] (by kernel_rfl) (by kernel_rfl) ?_
        refine ob_det (c := L.val ⟨a0, some ⟨b, off, none⟩, a2, a3, p0, p1, p2, p3⟩) ?_ ?_
        · intro ρ W hk hC
          simp only [seen, obOp]
          rintro h1
          replace h1 : ρ (.tmp 1) = .pointer (some ⟨w.heap.size, 0, none⟩) := h1.trans rfl
          exact relX_value (runLoad (h1) (XL.out.below hC)) hC
        refine ob_det (c := .pointer (some ⟨w.heap.size, 1, none⟩)) ?_ ?_
        · intro ρ W hk hC
          simp only [seen, obOp]
          rintro h1
          replace h1 : ρ (.tmp 1) = .pointer (some ⟨w.heap.size, 0, none⟩) := h1.trans rfl
          exact relX_value (by simp [go_sem, h1]) hC
        refine ob_det (c := .slice (some ⟨b, off, none⟩) L.sigs.length p1) ?_ ?_
        · intro ρ W hk hC
          simp only [seen, obOp, List.getD_cons_zero]
          rintro h92
          exact relX_value (by simp [go_sem, h92, y1 W hC]) hC
        refine ob_det (c := .int .i64 (n : Int)) ?_ ?_
        · intro ρ W hk hC
          simp only [seen, obOp]
          rintro h10
          replace h10 : ρ (.tmp 10) = .int .i64 (n : Int) := h10.trans rfl
          exact relX_value (by simp [go_sem, h10]) hC
        refine ob_det (c := .pointer (some ⟨b, off + n * 2, none⟩)) ?_ ?_
        · intro ρ W hk hC
          simp only [seen, obOp, List.getD_cons_zero, List.getD_cons_succ]
          rintro h93 h94
          exact relX_value (by simp [go_sem, h93, h94, hnl]) hC
        refine ob_det (c := .pointer (some ⟨b, off + n * 2, none⟩)) ?_ ?_
        · intro ρ W hk hC
          simp only [seen, obOp, List.getD_cons_zero]
          rintro h95
          exact relX_value (by simp [go_sem, h95]) hC
        refine ob_det (c := .agg #[.int .i64 x.s, .int .i64 x.p]) ?_ ?_
        · intro ρ W hk hC
          simp only [seen, obOp, List.getD_cons_zero]
          rintro h96
          exact relX_value (by simp [go_sem, h96, z1 W hC, z2 W hC]) hC
        refine ob_det (c := .tuple #[.agg x2.enc.toArray, .bool true]) ?_ ?_
        · intro ρ W hk hC
          simp only [seen, obOp, List.getD_cons_zero, List.getD_cons_succ]
          rintro h91 h97
          exact relX_call (f := 10) (args := #[L.val ⟨a0, some ⟨b, off, none⟩, a2, a3, p0, p1, p2, p3⟩, .agg #[.int .i64 x.s, .int .i64 x.p]]) (by simp [go_sem, h91, h97, hk.func]) hC (H2.out W (bchain BW.out hC))
        refine ob_det (c := .tuple #[.agg x2.enc.toArray, .bool true]) ?_ ?_
        · intro ρ W hk hC
          simp only [seen, obOp, List.getD_cons_zero]
          rintro h98
          exact relX_value (by simp [go_sem, h98]) hC
        refine ob_det (c := .agg x2.enc.toArray) ?_ ?_
        · intro ρ W hk hC
          simp only [seen, obOp, List.getD_cons_zero]
          rintro h90
          exact relX_value (by simp [go_sem, h90]) hC
        refine ob_det (c := .bool true) ?_ ?_
        · intro ρ W hk hC
          simp only [seen, obOp, List.getD_cons_zero, List.getD_cons_succ]
          rintro h90
          exact relX_value (by simp [go_sem, h90]) hC
        refine ⟨fun v W => IsBox V 11 v W, fun v w w' h k => h.step k, ?_, ?_⟩
        · intro ρ W hk hC
          simp only [seen, obOp]
          exact relX_alloc (cs := zeroSec.enc.toArray) run_alloc_sec hC
        refine ⟨fun _ _ => True, fun _ _ _ _ _ => trivial, ?_, ?_⟩
        · intro ρ W hk hC
          simp only [seen, obOp, List.getD_cons_zero, List.getD_cons_succ]
          rintro ⟨g8, h11, hb8, hc8⟩ h99
          exact store_sec (x := x2) h11 h99 hb8 hc8 hC
        refine ob_det (c := .bool true) ?_ ?_
        · intro ρ W hk hC
          simp only [seen, obOp, List.getD_cons_zero, List.getD_cons_succ]
          rintro h100
          exact relX_value (by simp [go_sem, h100]) hC
        intro vs W9 hC9
        simp only [endSeen, List.getD_cons_zero]
        intro h9
        simp only [writeAll]
        have HB9 := Lib.hid (bchain HBr.out hC9)
        clear z1 z2 y1 hr hrow hC9
        go_wp2
        go_roundw
        case rel => exact ⟨n + 1, by omega, by go_num, HB9⟩
        case measure => simp [intOf]; omega
      obtain rfl : n = L.sigs.length := by omega
      go_wp2_with fail
      clear HQ2 v1 lv0 hlt hn cq1
      obtain ⟨Y2, rfl⟩ : ∃ Y2 : World, Y2 = V := ⟨_, rfl⟩
      have HBY2 := HBr
      clear HBr
      go_loopw [13] (fun c wr => ∃ n : Nat, n ≤ L.exits.length ∧ c = .int .i64 n ∧ Hid (Below Y.heap.size Y wr)) (fun c _ => L.exits.length - (intOf c).toNat)
      case atStart => exact ⟨0, Nat.zero_le _, rfl, HBY2⟩
      case round =>
        obtain ⟨n, hn, rfl, HBr⟩ := hrel
        obtain ⟨U, rfl⟩ : ∃ U : World, U = wr := ⟨_, rfl⟩
        have v2 := (HBr.out.cell (p := ⟨w.heap.size, 2, none⟩) y2).trans cq2
        have lv0 : w.heap.size < U.heap.size := Nat.lt_of_lt_of_le y2 HBr.out.size
        by_cases hlt : n < L.exits.length
        · have BU := Lib.hid (bchain HB.out HBr.out)
          obtain ⟨es, hes, hAt, hSl⟩ := HL.out.exits
          have hlen : es.length = L.exits.length := by rw [← hes, List.length_map]
          obtain ⟨b, off, hAe, hrow⟩ := hAt.get (j := n) (by omega)
          dsimp only at hAe
          subst hAe
          obtain ⟨y, hy⟩ : ∃ y, es[n]? = some y := ⟨es[n]'(by omega), List.getElem?_eq_getElem (by omega)⟩
          obtain ⟨A, cap, hv, hlc, hcm, hst⟩ := hSl y (List.mem_of_getElem? hy)
          have hcm' : cap ≤ 9223372036854775807 := hcm
          obtain ⟨x, hx⟩ : ∃ x, x = y.1 := ⟨_, rfl⟩
          have hxe : L.exits[n]? = some x := by rw [← hes, List.getElem?_map, hy, hx]; rfl
          rw [← hx] at hlc hv hst
          have hrw : ∀ W, ClB U W → W.cell? ⟨b, off + n * 3, none⟩ = some (.int .i64 x.s) ∧ W.cell? ⟨b, off + n * 3 + 1, none⟩ = some (.int .i64 x.p) ∧ W.cell? ⟨b, off + n * 3 + 2, none⟩ = some (.slice A x.over.length cap) := fun W h => by
            have h0 := (hrow.below BU.out).below h
            have g0 := h0.2 n y hy 0 _ rfl
            have g1 := h0.2 n y hy 1 _ rfl
            have g2 := h0.2 n y hy 2 _ rfl
            rw [← hx] at g0 g1
            exact ⟨g0, g1, g2.trans (by rw [hv])⟩
          have lb : b < U.heap.size := Nat.lt_of_lt_of_le hrow.1 BU.out.size
          obtain ⟨hb2, hst2⟩ := HQ3.out n x hxe
          obtain ⟨x2, hA2⟩ : ∃ x2 : Sec, (∀ w1, Below w.heap.size w w1 → Calls Tryd.prog 10 #[L.val ⟨a0, a1, some ⟨b, off, none⟩, a3, p0, p1, p2, p3⟩, .agg #[.int .i64 x.s, .int .i64 x.p]] w1 fun e w' => e = .returned (.tuple #[.agg x2.enc.toArray, .bool true]) ∧ Below w1.heap.size w1 w') := by
            have h := HA.out x.s x.p
            unfold atV at h
            unfold hasB at hb2
            rw [hb2] at h
            exact ⟨_, h⟩
          have H2 := Lib.hid hA2
          have HST := Lib.hid hst2
          have HRW := Lib.hid hrw
          have HSS := Lib.hid hst
          have HXU := Lib.hid (HX.out.below HBr.out)
          have hmo : x.over.length ≤ 9223372036854775807 := Nat.le_trans hlc hcm'
          clear hA2 hb2 hst2 hrw hst hv hxe hx hy hAt hSl hes hrow hlen
          go_wp2_with fail
          go_loopw [14] (fun c wr => ∃ k : Nat, k ≤ x.over.length ∧ c = .int .i64 k ∧ Hid (Below U.heap.size U wr)) (fun c _ => x.over.length - (intOf c).toNat)
          case atStart => exact ⟨0, Nat.zero_le _, rfl, Lib.hid (Below.refl _ _)⟩
          case round =>
            obtain ⟨k, hk, rfl, HBk⟩ := hrel
            obtain ⟨V, rfl⟩ : ∃ V : World, V = wr := ⟨_, rfl⟩
            have BV := Lib.hid (bchain BU.out HBk.out)
            have XV := Lib.hid (HXU.out.below HBk.out)
            obtain ⟨g0, g1, g2⟩ := HRW.out V HBk.out
            obtain ⟨r0, r1, r2, r3, r4, r5, r6, r7, r8, r9, r10⟩ := XV.out.cells
            have lw : w.heap.size < V.heap.size := XV.out.1
            have lbV : b < V.heap.size := Nat.lt_of_lt_of_le lb HBk.out.size
            by_cases hkl : k < x.over.length
            · obtain ⟨b3, o3, hAe, hro⟩ := HSS.out.get hkl
              subst hAe
              obtain ⟨st, hst⟩ : ∃ st, x.over[k]? = some st := ⟨x.over[k], List.getElem?_eq_getElem hkl⟩
              have hr := hro.below BV.out
              have d0 : V.cell? ⟨b3, o3 + k * 3, none⟩ = some (.int .i64 st.s) := hr.2 k st hst 0 _ rfl
              have d1 : V.cell? ⟨b3, o3 + k * 3 + 1, none⟩ = some (.int .i64 st.i) := hr.2 k st hst 1 _ rfl
              have d2 : V.cell? ⟨b3, o3 + k * 3 + 2, none⟩ = some (.int .i64 st.o) := hr.2 k st hst 2 _ rfl
              have lb3 : b3 < V.heap.size := hr.1
              have hsb := HST.out k st hst
              have h3 := fun w1 hw => HS.out st.s st.i st.o w1 hw
              rw [hsb] at h3
              generalize stepN L st.s st.i st.o = sn at h3
              have H3 := Lib.hid h3
              clear h3 hsb hr hro hst
              go_wp2_with fail
              refine wp_region_ext (by kernel_rfl) (by kernel_rfl) fun hx => ?_
              repeat (go_big_quiet_step ((go_at_call 12; exact Calls.ext (H3.out _ (bchain BV.out (Ext.below _))))))
              refine wpQuiet_nil ?_
              intro w5 b5
              have HB5 := Lib.hid (bchain HBk.out b5)
              clear b5
              go_wp2
              go_roundw
              case rel => exact ⟨k + 1, by omega, by go_num, HB5⟩
              case measure => simp [intOf]; omega
            obtain rfl : k = x.over.length := by omega
            go_upto_region 31 with fail
            clear g0 g1 g2 r0 r1 r2 r3 r4 r5 r6 r7 r8 r9 r10 hkl hk
            have y1 : ∀ W, ClB V W → W.cell? ⟨w.heap.size, 2, none⟩ = some (.slice (some ⟨b, off, none⟩) L.exits.length p2) := fun W h => (h.cell (p := ⟨w.heap.size, 2, none⟩) lw).trans ((HBk.out.cell (p := ⟨w.heap.size, 2, none⟩) lv0).trans v2)
            have z1 : ∀ W, ClB V W → W.cell? ⟨b, off + n * 3, none⟩ = some (.int .i64 x.s) := fun W h => (HRW.out W (bchain HBk.out h)).1
            have z2 : ∀ W, ClB V W → W.cell? ⟨b, off + n * 3 + 1, none⟩ = some (.int .i64 x.p) := fun W h => (HRW.out W (bchain HBk.out h)).2.1
            have hnl : (n : Int) < L.exits.length := by omega
            refine wp_region_rel_box [([(1, none)], none), ([(1, none)], none), ([(139, some 0)], none), ([(13, none)], none), ([(140, some 1), (141, some 0)], none), ([(142, some 0)], none), ([(143, some 0)], none), ([(138, some 6), (144, some 0)], none), ([(145, some 0)], none), ([(137, some 0)], none), ([(137, some 1)], none), ([], none), ([(17, some 0), (146, some 2)], none), ([(147, some 2)], none)] [(0, 18)] (by kernel_rfl) (by kernel_rfl) ?_
            refine ob_det (c := L.val ⟨a0, a1, some ⟨b, off, none⟩, a3, p0, p1, p2, p3⟩) ?_ ?_
            · intro ρ W hk hC
              simp only [seen, obOp]
              rintro h1
              replace h1 : ρ (.tmp 1) = .pointer (some ⟨w.heap.size, 0, none⟩) := h1.trans rfl
              exact relX_value (runLoad (h1) (XV.out.below hC)) hC
            refine ob_det (c := .pointer (some ⟨w.heap.size, 2, none⟩)) ?_ ?_
            · intro ρ W hk hC
              simp only [seen, obOp]
              rintro h1
              replace h1 : ρ (.tmp 1) = .pointer (some ⟨w.heap.size, 0, none⟩) := h1.trans rfl
              exact relX_value (by simp [go_sem, h1]) hC
            refine ob_det (c := .slice (some ⟨b, off, none⟩) L.exits.length p2) ?_ ?_
            · intro ρ W hk hC
              simp only [seen, obOp, List.getD_cons_zero]
              rintro h139
              exact relX_value (by simp [go_sem, h139, y1 W hC]) hC
            refine ob_det (c := .int .i64 (n : Int)) ?_ ?_
            · intro ρ W hk hC
              simp only [seen, obOp]
              rintro h13
              replace h13 : ρ (.tmp 13) = .int .i64 (n : Int) := h13.trans rfl
              exact relX_value (by simp [go_sem, h13]) hC
            refine ob_det (c := .pointer (some ⟨b, off + n * 3, none⟩)) ?_ ?_
            · intro ρ W hk hC
              simp only [seen, obOp, List.getD_cons_zero, List.getD_cons_succ]
              rintro h140 h141
              exact relX_value (by simp [go_sem, h140, h141, hnl]) hC
            refine ob_det (c := .pointer (some ⟨b, off + n * 3, none⟩)) ?_ ?_
            · intro ρ W hk hC
              simp only [seen, obOp, List.getD_cons_zero]
              rintro h142
              exact relX_value (by simp [go_sem, h142]) hC
            refine ob_det (c := .agg #[.int .i64 x.s, .int .i64 x.p]) ?_ ?_
            · intro ρ W hk hC
              simp only [seen, obOp, List.getD_cons_zero]
              rintro h143
              exact relX_value (by simp [go_sem, h143, z1 W hC, z2 W hC]) hC
            refine ob_det (c := .tuple #[.agg x2.enc.toArray, .bool true]) ?_ ?_
            · intro ρ W hk hC
              simp only [seen, obOp, List.getD_cons_zero, List.getD_cons_succ]
              rintro h138 h144
              exact relX_call (f := 10) (args := #[L.val ⟨a0, a1, some ⟨b, off, none⟩, a3, p0, p1, p2, p3⟩, .agg #[.int .i64 x.s, .int .i64 x.p]]) (by simp [go_sem, h138, h144, hk.func]) hC (H2.out W (bchain BV.out hC))
            refine ob_det (c := .tuple #[.agg x2.enc.toArray, .bool true]) ?_ ?_
            · intro ρ W hk hC
              simp only [seen, obOp, List.getD_cons_zero]
              rintro h145
              exact relX_value (by simp [go_sem, h145]) hC
            refine ob_det (c := .agg x2.enc.toArray) ?_ ?_
            · intro ρ W hk hC
              simp only [seen, obOp, List.getD_cons_zero]
              rintro h137
              exact relX_value (by simp [go_sem, h137]) hC
            refine ob_det (c := .bool true) ?_ ?_
            · intro ρ W hk hC
              simp only [seen, obOp, List.getD_cons_zero, List.getD_cons_succ]
              rintro h137
              exact relX_value (by simp [go_sem, h137]) hC
            refine ⟨fun v W => IsBox V 11 v W, fun v w w' h k => h.step k, ?_, ?_⟩
            · intro ρ W hk hC
              simp only [seen, obOp]
              exact relX_alloc (cs := zeroSec.enc.toArray) run_alloc_sec hC
            refine ⟨fun _ _ => True, fun _ _ _ _ _ => trivial, ?_, ?_⟩
            · intro ρ W hk hC
              simp only [seen, obOp, List.getD_cons_zero, List.getD_cons_succ]
              rintro ⟨g8, h17, hb8, hc8⟩ h146
              exact store_sec (x := x2) h17 h146 hb8 hc8 hC
            refine ob_det (c := .bool true) ?_ ?_
            · intro ρ W hk hC
              simp only [seen, obOp, List.getD_cons_zero, List.getD_cons_succ]
              rintro h147
              exact relX_value (by simp [go_sem, h147]) hC
            intro vs W9 hC9
            simp only [endSeen, List.getD_cons_zero]
            intro h9
            simp only [writeAll]
            have HB9 := Lib.hid (bchain (bchain HBr.out HBk.out) hC9)
            clear z1 z2 y1 hC9
            go_wp2
            go_roundw
            case rel => exact ⟨n + 1, by omega, by go_num, HB9⟩
            case measure => simp [intOf]; omega
        obtain rfl : n = L.exits.length := by omega
        have v00 := (HBr.out.cell (p := ⟨w.heap.size, 0, none⟩) y2).trans cq0
        have d24 : decide ((L.secs.length : Int) ≤ 24) = true := decide_eq_true (by omega)
        go_wp2_with fail
        (with_reducible refine (HW.out _ (bchain HB.out HBr.out)).mono ?_)
        rintro e w9 ⟨rfl, b9⟩
        go_wp2
        go_ret
        exact ⟨rfl, bchain (bchain HB.out HBr.out) b9⟩
end Go.Proofs.YtkphihbimdffjaaDoor
