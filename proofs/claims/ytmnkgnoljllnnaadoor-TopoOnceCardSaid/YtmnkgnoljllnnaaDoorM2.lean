/-
  layout.Right's closure of flanks; slices.Min, Max.
-/
import Derived.Test.YtmnkgnoljllnnaaDoorM1
import Derived.StillTail
import Derived.Deep.RegionHeld3
import Derived.OrdersIn
import Derived.RangeFuncCalls
import Derived.TacticsIn

namespace Go.Proofs.YtmnkgnoljllnnaaDoor
open Go.RowKit Go.Shelf

def secK (L : Lay) (s : Int) : Int := match secAt L s with
  | some c => c.k
  | none => 0
def flankP (L : Lay) (s way pt pos : Int) : Prop := isSec L s = true ∧ isSec L pt = true ∧ s ≠ pt ∧ 0 ≤ pos ∧ pos ≤ 1 ∧ 0 ≤ way ∧ way < kMany (secK L s) ∧ secK L pt = 2
instance (L : Lay) (s way pt pos : Int) : Decidable (flankP L s way pt pos) := by unfold flankP; infer_instance
def flankT (L : Lay) (f : Flk) : Bool := decide (flankP L f.s f.way f.pt f.pos)
theorem isSec_get {L : Lay} {s : Int} (h : isSec L s = true) : ∃ (n : Nat) (c : Sec), s = (n : Int) ∧ n < L.secs.length ∧ L.secs[n]? = some c ∧ c ∈ L.secs ∧ secK L s = c.k := by
  obtain ⟨n, c, e, hn, hc, hs, hm⟩ := secAt_some (of_decide_eq_true h)
  exact ⟨n, c, e, hn, hc, hm, by unfold secK; rw [hs]⟩
/-- The cell that holds a section's kind. -/
theorem kind_cell {L : Lay} {p : Where} {W : World} (hL : LayAt W p L) {n : Nat} {c : Sec} (hn : n < L.secs.length) (hc : L.secs[n]? = some c) :
    ∃ b off, p.a0 = some ⟨b, off, none⟩ ∧ b < W.heap.size ∧ W.cell? ⟨b, off + n * 11, none⟩ = some (.int .u8 c.k) := by
  obtain ⟨b, off, e, h⟩ := hL.secs.get hn
  exact ⟨b, off, e, h.1, h.2 n c hc 0 _ rfl⟩

set_option maxRecDepth 100000 in
set_option maxHeartbeats 8000000 in
theorem right3_any (L : Lay) (p : Where) (f : Flk) (g : Nat) (w : World) (hL : LayAt w p L) (K : Kinds w) (hB : Box w g L p) :
    Calls Tryd.prog 43 #[.agg f.enc.toArray, .pointer (some ⟨g, 0, none⟩)] w fun e w' => e = .returned (.bool (!flankT L f)) ∧ Below w.heap.size w w' := by
  obtain ⟨s, way, pt, pos⟩ := f
  unfold Flk.enc
  have hr : flankT L ⟨s, way, pt, pos⟩ = true ↔ flankP L s way pt pos := decide_eq_true_iff
  generalize flankT L ⟨s, way, pt, pos⟩ = r at hr ⊢
  have h1 := fun w1 => section_any L p s w1
  have h2 := fun w1 => section_any L p pt w1
  unfold Lay.val at h1 h2
  have hg1 : isSec L s = true → _ := fun h => isSec_get h
  have hg2 : isSec L pt = true → _ := fun h => isSec_get h
  unfold flankP at hr
  have hlen : L.secs.length ≤ 9223372036854775807 := Nat.le_trans hL.l0.1 hL.l0.2
  obtain ⟨a, ha⟩ : ∃ a, a = isSec L s := ⟨_, rfl⟩
  obtain ⟨b, hb⟩ : ∃ b, b = isSec L pt := ⟨_, rfl⟩
  rw [← ha] at h1 hg1 hr
  rw [← hb] at h2 hg2 hr
  obtain ⟨a0, a1, a2, a3, p0, p1, p2, p3⟩ := p
  have H1 := Lib.hid h1
  have H2 := Lib.hid h2
  have HG := Lib.hid (⟨hg1, hg2⟩ : _ ∧ _)
  have KH := Lib.hid K
  have HL := Lib.hid hL
  have HR := Lib.hid hr
  have lg := hB.1
  have c0 := hB.2 0 _ rfl
  have c1 := hB.2 1 _ rfl
  have c2 := hB.2 2 _ rfl
  have c3 := hB.2 3 _ rfl
  have c4 := hB.2 4 _ rfl
  have c5 := hB.2 5 _ rfl
  have c6 := hB.2 6 _ rfl
  have c7 := hB.2 7 _ rfl
  have c8 := hB.2 8 _ rfl
  have c9 := hB.2 9 _ rfl
  have c10 := hB.2 10 _ rfl
  clear h1 h2 hg1 hg2 K hL hr hB ha hb
  cases a with
  | false =>
    have e : r = false := by
      have h := HR.out
      cases r
      · rfl
      · simp at h
    subst e
    clear HR
    go_enter Tryd.func43, Tryd.ntmps43
    go_wp2_with fail
    (with_reducible refine (H1.out _).mono ?_)
    rintro e w1 ⟨rfl, b1⟩
    go_wp2
    go_ret
    exact ⟨rfl, bnew b1⟩
  | true =>
    cases b with
    | false =>
      have e : r = false := by
        have h := HR.out
        cases r
        · rfl
        · simp at h
      subst e
      clear HR
      go_enter Tryd.func43, Tryd.ntmps43
      go_wp2_with fail
      (with_reducible refine (H1.out _).mono ?_)
      rintro e w1 ⟨rfl, b1⟩
      obtain ⟨hc, hf, hz⟩ := bcell b1
      have z0 : w.heap.size < w1.heap.size := hz _ (by simp)
      have z1 : g < w1.heap.size := hz _ (by simp <;> omega)
      have lg1 : g < w.heap.size + 1 := by omega
      go_wp2_with fail
      (with_reducible refine (H2.out _).mono ?_)
      rintro e w2 ⟨rfl, b2⟩
      go_wp2
      go_ret
      exact ⟨rfl, bchain (bnew b1) b2⟩
    | true =>
      obtain ⟨n1, s1, e1, ln1, hs1, hm1, ek1⟩ := HG.out.1 rfl
      obtain ⟨n2, s2, e2, ln2, hs2, hm2, ek2⟩ := HG.out.2 rfl
      rw [ek1, ek2] at HR
      obtain ⟨bS, off, hAe, hbS, q1⟩ := kind_cell HL.out ln1 hs1
      obtain ⟨bS', off', hAe', _, q2⟩ := kind_cell HL.out ln2 hs2
      dsimp only at hAe hAe'
      subst hAe
      simp only [Option.some.injEq, Addr.mk.injEq, and_true] at hAe'
      obtain ⟨rfl, rfl⟩ := hAe'
      have hk1 := HL.out.kinds s1 hm1
      have hw := fun w1 (K1 : Kinds w1) => ways_any s1.k hk1.1 hk1.2 w1 K1
      obtain ⟨m, hm⟩ : ∃ m, m = kMany s1.k := ⟨_, rfl⟩
      obtain ⟨k1, hk1'⟩ : ∃ k1, k1 = s1.k := ⟨_, rfl⟩
      obtain ⟨k2, hk2'⟩ : ∃ k2, k2 = s2.k := ⟨_, rfl⟩
      rw [← hm, ← hk1'] at hw
      rw [← hm, ← hk2'] at HR
      rw [← hk1'] at q1
      rw [← hk2'] at q2
      subst e1 e2
      have HW := Lib.hid hw
      clear hw hm hk1' hk2' hk1 ek1 ek2 hs1 hs2 hm1 hm2 HG HL
      go_enter Tryd.func43, Tryd.ntmps43
      go_wp2_with fail
      (with_reducible refine (H1.out _).mono ?_)
      rintro e w1 ⟨rfl, b1⟩
      obtain ⟨hc, hf, hz⟩ := bcell b1
      have z0 : w.heap.size < w1.heap.size := hz _ (by simp)
      have z1 : g < w1.heap.size := hz _ (by simp <;> omega)
      have z2 : bS < w1.heap.size := hz _ (by simp <;> omega)
      have lg1 : g < w.heap.size + 1 := by omega
      have lb1 : bS < w.heap.size + 1 := by omega
      go_wp2_with fail
      (with_reducible refine (H2.out _).mono ?_)
      rintro e w2 ⟨rfl, b2⟩
      obtain ⟨hc2, hf2, hz2⟩ := bcell b2
      have y0 : w.heap.size < w2.heap.size := hz2 _ z0
      have y1 : g < w2.heap.size := hz2 _ z1
      have y2 : bS < w2.heap.size := hz2 _ z2
      have HB2 := Lib.hid (bchain (bnew b1) b2)
      clear b1 b2 hz hz2 H1 H2
      by_cases g1 : n1 = n2
      · have e : r = false := by
          have h := HR.out
          cases r
          · rfl
          · exact absurd (congrArg (Nat.cast : Nat → Int) g1) ((h.1 rfl).2.2.1)
        subst e
        clear HR
        have d1 : (n1 == n2) = true := by simpa using g1
        go_wp2
        go_ret
        exact ⟨rfl, HB2.out⟩
      · have d1 : ((n1 : Int) == (n2 : Int)) = false := by simp; omega
        have d1' : ¬ (n1 : Int) = (n2 : Int) := by omega
        by_cases g2 : pos < 0
        · have e : r = false := by
            have h := HR.out
            cases r
            · rfl
            · have := (h.1 rfl).2.2.2.1; omega
          subst e
          clear HR
          go_wp2
          go_ret
          exact ⟨rfl, HB2.out⟩
        · have d2 : decide (pos < 0) = false := decide_eq_false g2
          by_cases g3 : 1 < pos
          · have d3 : decide ((1 : Int) < pos) = true := decide_eq_true g3
            have e : r = false := by
              have h := HR.out
              cases r
              · rfl
              · have := (h.1 rfl).2.2.2.2.1; omega
            subst e
            clear HR
            go_wp2
            go_ret
            exact ⟨rfl, HB2.out⟩
          · have d3 : decide ((1 : Int) < pos) = false := decide_eq_false g3
            have g3' : pos ≤ 1 := by omega
            by_cases g4 : way < 0
            · have d4 : decide (way < 0) = true := decide_eq_true g4
              have e : r = false := by
                have h := HR.out
                cases r
                · rfl
                · have := (h.1 rfl).2.2.2.2.2.1; omega
              subst e
              clear HR
              go_wp2
              go_ret
              exact ⟨rfl, HB2.out⟩
            · have d4 : decide (way < 0) = false := decide_eq_false g4
              by_cases g5 : m ≤ way
              · have e : r = false := by
                  have h := HR.out
                  cases r
                  · rfl
                  · have := (h.1 rfl).2.2.2.2.2.2.1; omega
                subst e
                clear HR
                have d5 : decide (m ≤ way) = true := decide_eq_true g5
                go_wp2_with fail
                refine wp_region_ext (by kernel_rfl) (by kernel_rfl) fun hx => ?_
                repeat (go_big_quiet_step ((go_at_call 45; exact Calls.ext (HW.out _ (KH.out.below (bchain HB2.out (Ext.below _)))))))
                refine wpQuiet_nil ?_
                intro w5 b5
                go_wp2
                go_ret
                exact ⟨rfl, bchain HB2.out b5⟩
              · have d5 : decide (m ≤ way) = false := decide_eq_false g5
                have e : r = decide (k2 = 2) := by
                  have h := HR.out
                  rw [Bool.eq_iff_iff, decide_eq_true_iff, h]
                  constructor
                  · intro q; exact q.2.2.2.2.2.2.2
                  · intro q; exact ⟨by simp, by simp, fun e => g1 (by omega), by omega, by omega, by omega, by omega, q⟩
                by_cases g6 : k2 = 2
                · obtain rfl : r = true := by rw [e, g6]; rfl
                  subst g6
                  clear HR e
                  go_wp2_with fail
                  refine wp_region_ext (by kernel_rfl) (by kernel_rfl) fun hx => ?_
                  repeat (go_big_quiet_step ((go_at_call 45; exact Calls.ext (HW.out _ (KH.out.below (bchain HB2.out (Ext.below _)))))))
                  refine wpQuiet_nil ?_
                  intro w5 b5
                  go_wp2
                  go_ret
                  exact ⟨rfl, bchain HB2.out b5⟩
                · obtain rfl : r = false := by rw [e]; exact decide_eq_false g6
                  have d6 : (k2 == 2) = false := by simpa using g6
                  have d7 : (k2 != 2) = true := by simpa using g6
                  clear HR e
                  go_wp2_with fail
                  refine wp_region_ext (by kernel_rfl) (by kernel_rfl) fun hx => ?_
                  repeat (go_big_quiet_step ((go_at_call 45; exact Calls.ext (HW.out _ (KH.out.below (bchain HB2.out (Ext.below _)))))))
                  refine wpQuiet_nil ?_
                  intro w5 b5
                  go_wp2
                  go_ret
                  exact ⟨rfl, bchain HB2.out b5⟩
end Go.Proofs.YtmnkgnoljllnnaaDoor

/-
  The law of 'for x := range f' in a plain walk, where the body and what assigns its variable lay blocks of their own and turn nothing that was there.
-/
namespace Go.Proofs.YtmnkgnoljllnnaaDoor
open Go.RowKit Go.Shelf

abbrev NoB : Nat → Prop := fun _ => False
abbrev NoT : TypeId → Prop := fun _ => False
/-- How the body of a round may be left. -/
def roundPostK {α : Type} (I : List α → Prop) (Ix : Code → List α → Prop) (xs : List α) (W : World) : Exit → Act → World → Prop
  | .normal, _, W' => Below W.heap.size W W' ∧ I xs
  | .ret, _, W' => Below W.heap.size W W' ∧ Ix .ret xs
  | .exit id, _, W' => Below W.heap.size W W' ∧ Ix (.exit id) xs
  | .goto t, _, W' => Below W.heap.size W W' ∧ Ix (.goto t) xs
  | .panic _, _, _ => False
  | .outgrown, _, _ => False
theorem same_of_grown {W W' : World} {row : Option Nat} {B : Nat} (hg : W.grownBy W' row) (hr : ∀ r, row = some r → B ≤ r ∧ ∃ o : Obj, W.heap[r]? = some o ∧ o.isCells = false) : SameCells W W' := by
  intro b o ho hc
  refine (hg.block b (Array.getElem?_eq_some_iff.1 ho).1 (fun e => ?_)).trans ho
  obtain ⟨_, o', h2, h3⟩ := hr b e.symm
  rw [h2] at ho
  cases ho
  rw [hc] at h3
  cases h3
theorem ownFrom_below_and {β : Type} {w : World} (I : β → Prop) : OwnFrom w.heap.size (fun (s : β) W => I s ∧ Below w.heap.size w W) := by
  rintro s W W' row ⟨hi, hw⟩ hg hr
  refine ⟨hi, ⟨hg.os.trans hw.os, hg.tape.trans hw.tape, hg.output.trans hw.output, Nat.le_trans hw.size hg.size, fun b hb => ?_⟩⟩
  have h1 := hw.size
  exact (hg.block b (by omega) (fun e => by have := (hr b e.symm).1; omega)).trans (hw.block b hb)

/-- **'for x := range f' IN A PLAIN WALK, nothing turned.** -/
theorem wp_range_k {P : Program} {α : Type} {g : Operand} {ps : Array Tmp} {assign body : Code} {Q : Exit → Act → World → Prop} {a : Act} {w : World}
    {gf : Nat} {lb : Array Value} (hg : a.eval g = .func (.func gf) #[] lb) (eg : ∀ args w, (callFunc gf args).run P w = .ok (.enter gf args) w)
    {encs : α → Array Value} {S Sp : List α → Prop} {N : Nat}
    (hseq : SeqStopsK Fence.wide 4 P gf lb encs (KeepsE NoB NoT w.heap.size) S Sp N w) (hps : ∀ x, (encs x).size = ps.size)
    (I : List α → Prop) (Ix : Code → List α → Prop) (h0 : I []) (Ax : α → Act → World → Prop) (hAx : ∀ x a' W W', Ax x a' W → SameCells W W' → W.heap.size ≤ W'.heap.size → Ax x a' W')
    (hassign : ∀ (l : Nat) (x : α) (W : World) (K : Act → World → Prop), Below w.heap.size w W → (∀ a' W', Below W.heap.size W W' → Ax x a' W' → K a' W') →
      assign.wpIn (Fence.wide.inRound l) 3 P (Exit.then K (fun _ _ _ => False)) { tmps := (ps.zip (encs x)).foldl (fun t (p, v) => t.setIfInBounds p v) a.tmps, defers := [] } W)
    (hbody : ∀ (l : Nat) (pre : List α) (x : α) (a' : Act) (W : World), Below w.heap.size w W → I pre → Ax x a' W → pre.length < N → body.wpIn (Fence.wide.inRound l) 3 P (roundPostK I Ix (pre ++ [x]) W) a' W)
    (hdone : ∀ (D : Nat) (xs : List α) (W : World), w.heap.size ≤ D → S xs → Below w.heap.size w W → I xs → W.heap[D]? = some (.deferred (some [])) → Q .normal { a with defers := { target := .collected D, args := #[] } :: a.defers } W)
    (hstop : ∀ (D : Nat) (c : Code) (pre : List α) (W : World), w.heap.size ≤ D → Sp pre → Below w.heap.size w W → Ix c pre → W.heap[D]? = some (.deferred (some [])) → c.wp P Q { a with defers := { target := .collected D, args := #[] } :: a.defers } W) :
    (Code.rangeFunc g ps assign body).wp P Q a w := by
  refine (wpIn_wide (n := 5)).1 (wpIn_rangeFunc_ownH (F := Fence.wide) (n := 5) rfl (by decide) hg trivial eg hseq (fun h k => h.trans k) (fun W l o o' _ hl hc _ => keepE_put W l o o' hl hc) (Below.refl _ _) hps
    (fun s W => I s ∧ Below w.heap.size w W) (fun c s W => Ix c s ∧ Below w.heap.size w W) (ownFrom_below_and I) (fun c => ownFrom_below_and (Ix c)) ⟨h0, Below.refl _ _⟩
    Ax (fun x a' _ W W' row hs hgr hr => hAx x a' W W' hs (same_of_grown hgr hr) hgr.size) ?_ ?_ ?_ ?_)
  · rintro l pre x W K ⟨hi, hw⟩ hK
    refine hassign l x W K hw (fun a' W' hb hx => hK a' W' ⟨hb.size, fun k o _ hk _ => (hb.block k (Array.getElem?_eq_some_iff.1 hk).1).trans hk⟩ (.of_below hb) ⟨hi, hw.trans (hb.mono hw.size)⟩ hx)
  · rintro l pre x a' W _ _ ⟨hi, hw⟩ hx hlen
    refine wpIn_mono (hbody l pre x a' W hw hi hx hlen) ?_
    have kf : ∀ W', Below W.heap.size W W' → KeepsFrom w.heap.size W W' := fun W' hb => ⟨hb.size, fun k o _ hk _ => (hb.block k (Array.getElem?_eq_some_iff.1 hk).1).trans hk⟩
    rintro e a' W' hq
    cases e with
    | normal => exact ⟨kf W' hq.1, .of_below hq.1, hq.2, hw.trans (hq.1.mono hw.size)⟩
    | ret => exact ⟨kf W' hq.1, hq.2, hw.trans (hq.1.mono hw.size)⟩
    | exit id => exact ⟨kf W' hq.1, hq.2, hw.trans (hq.1.mono hw.size)⟩
    | goto t => exact ⟨kf W' hq.1, hq.2, hw.trans (hq.1.mono hw.size)⟩
    | panic ch => exact hq.elim
    | outgrown => exact hq.elim
  · rintro D xs W hD hS ⟨hi, hw⟩ hK
    exact hdone D xs W hD hS hw hi hK
  · rintro D c pre W hD hS ⟨hi, hw⟩ hK
    exact wpIn_wide.2 (hstop D c pre W hD hS hw hi hK)

/-- Where the variable lies in a block of its own, laid anew each round: its frame and its cells. -/
def BoxAx {α : Type} (ps : Array Tmp) (encs : α → Array Value) (cs : α → List Value) (sv : Nat) (a : Act) (x : α) (a' : Act) (W : World) : Prop :=
  ∃ bx : Nat, a' = { tmps := ((ps.zip (encs x)).foldl (fun t (p, v) => t.setIfInBounds p v) a.tmps).setIfInBounds sv (.pointer (some ⟨bx, 0, none⟩)), defers := [] } ∧ bx < W.heap.size ∧ ∀ (i : Nat) (v : Value), (cs x)[i]? = some v → W.cell? ⟨bx, i, none⟩ = some v
theorem BoxAx.same {α : Type} {ps : Array Tmp} {encs : α → Array Value} {cs : α → List Value} {sv : Nat} {a a' : Act} {x : α} {W W' : World} (h : BoxAx ps encs cs sv a x a' W) (k : SameCells W W') (hs : W.heap.size ≤ W'.heap.size) : BoxAx ps encs cs sv a x a' W' := by
  obtain ⟨bx, e, h1, h2⟩ := h
  exact ⟨bx, e, Nat.lt_of_lt_of_le h1 hs, fun i v hv => k.cell (h2 i v hv)⟩
/-- **'for x := range f', x boxed.** -/
theorem wp_range_box {P : Program} {α : Type} {g : Operand} {ps : Array Tmp} {assign body : Code} {Q : Exit → Act → World → Prop} {a : Act} {w : World}
    {gf : Nat} {lb : Array Value} (hg : a.eval g = .func (.func gf) #[] lb) (eg : ∀ args w, (callFunc gf args).run P w = .ok (.enter gf args) w)
    {encs : α → Array Value} {S Sp : List α → Prop} {N : Nat} (cs : α → List Value) (sv : Nat)
    (hseq : SeqStopsK Fence.wide 4 P gf lb encs (KeepsE NoB NoT w.heap.size) S Sp N w) (hps : ∀ x, (encs x).size = ps.size)
    (I : List α → Prop) (Ix : Code → List α → Prop) (h0 : I [])
    (hassign : ∀ (l : Nat) (x : α) (W : World) (K : Act → World → Prop), (∀ a' W', Below W.heap.size W W' → BoxAx ps encs cs sv a x a' W' → K a' W') →
      assign.wpIn (Fence.wide.inRound l) 3 P (Exit.then K (fun _ _ _ => False)) { tmps := (ps.zip (encs x)).foldl (fun t (p, v) => t.setIfInBounds p v) a.tmps, defers := [] } W)
    (hbody : ∀ (l : Nat) (pre : List α) (x : α) (bx : Nat) (W : World), Below w.heap.size w W → I pre → bx < W.heap.size → (∀ (i : Nat) (v : Value), (cs x)[i]? = some v → W.cell? ⟨bx, i, none⟩ = some v) → pre.length < N →
      body.wpIn (Fence.wide.inRound l) 3 P (roundPostK I Ix (pre ++ [x]) W) { tmps := ((ps.zip (encs x)).foldl (fun t (p, v) => t.setIfInBounds p v) a.tmps).setIfInBounds sv (.pointer (some ⟨bx, 0, none⟩)), defers := [] } W)
    (hdone : ∀ (D : Nat) (xs : List α) (W : World), w.heap.size ≤ D → S xs → Below w.heap.size w W → I xs → W.heap[D]? = some (.deferred (some [])) → Q .normal { a with defers := { target := .collected D, args := #[] } :: a.defers } W)
    (hstop : ∀ (D : Nat) (c : Code) (pre : List α) (W : World), w.heap.size ≤ D → Sp pre → Below w.heap.size w W → Ix c pre → W.heap[D]? = some (.deferred (some [])) → c.wp P Q { a with defers := { target := .collected D, args := #[] } :: a.defers } W) :
    (Code.rangeFunc g ps assign body).wp P Q a w :=
  wp_range_k hg eg hseq hps I Ix h0 (BoxAx ps encs cs sv a) (fun _ _ _ _ h k hs => h.same k hs) (fun l x W K _ hK => hassign l x W K hK)
    (fun l pre x a' W hb hi hx hlen => by
      obtain ⟨bx, rfl, h1, h2⟩ := hx
      exact hbody l pre x bx W hb hi h1 h2 hlen) hdone hstop
end Go.Proofs.YtmnkgnoljllnnaaDoor

/-
  layout.ports: the iterator over all ports that a layout names.
-/
namespace Go.Proofs.YtmnkgnoljllnnaaDoor
open Go.RowKit Go.Shelf
attribute [local go_sem] Oper.semAt_some join_at0 join_at1 join_at2 join_at3

/-- Whatever cells there were hold what they held. -/
structure Kept (W W' : World) : Prop where
  size : W.heap.size ≤ W'.heap.size
  cell : ∀ (b o : Nat) (v : Value), W.cell? ⟨b, o, none⟩ = some v → W'.cell? ⟨b, o, none⟩ = some v
theorem Kept.refl (W : World) : Kept W W := ⟨Nat.le_refl _, fun _ _ _ h => h⟩
theorem Kept.trans {X Y Z : World} (h : Kept X Y) (k : Kept Y Z) : Kept X Z := ⟨Nat.le_trans h.size k.size, fun b o v e => k.cell b o v (h.cell b o v e)⟩
theorem Kept.of_below {W W' : World} (h : Below W.heap.size W W') : Kept W W' :=
  ⟨h.size, fun b o _ e => (h.cell (p := ⟨b, o, none⟩) (World.block_lt_of_cell? _ _ e)).trans e⟩
theorem Kept.of_keeps {n : Nat} {W W' : World} (h : KeepsE NoB NoT n W W') : Kept W W' := by
  refine ⟨h.size, fun b o v e => ?_⟩
  obtain ⟨c, t, r, hh⟩ := isCells_of_cell e
  have h2 := h.same b _ hh rfl (fun k => k) (by rintro ⟨_, c', e', r', _, k⟩; exact k)
  exact (World.cell?_of_block (w := W) (a := ⟨b, o, none⟩) (h2.trans hh.symm)).trans e
theorem Kept.of_writes {n : Nat} {W W' : World} (h : WritesE NoB NoT n W W') : Kept W W' := .of_keeps h.keeps
theorem Kept.of_same {W W' : World} (h : SameCells W W') (hs : W.heap.size ≤ W'.heap.size) : Kept W W' := ⟨hs, fun _ _ _ e => h.cell e⟩
theorem RowAt'.kept {α : Type} {W W' : World} {k : Nat} {enc : α → List Value} {b off : Nat} {xs : List α} (h : RowAt' W k enc b off xs) (hb : Kept W W') : RowAt' W' k enc b off xs :=
  ⟨Nat.lt_of_lt_of_le h.1 hb.size, fun j x hx i v hv => hb.cell _ _ _ (h.2 j x hx i v hv)⟩
theorem At.kept {α : Type} {W W' : World} {k : Nat} {enc : α → List Value} {A : Option Addr} {xs : List α} (h : At W k enc A xs) (hb : Kept W W') : At W' k enc A xs := by
  rcases h with h | ⟨b, off, e, h⟩
  · exact .inl h
  · exact .inr ⟨b, off, e, h.kept hb⟩
theorem Sl.kept {α : Type} {W W' : World} {k : Nat} {enc : α → List Value} {v : Value} {xs : List α} (h : Sl W k enc v xs) (hb : Kept W W') : Sl W' k enc v xs := by
  obtain ⟨A, cap, e, h1, h2, h3⟩ := h
  exact ⟨A, cap, e, h1, h2, h3.kept hb⟩
theorem ExAt.kept {W W' : World} {A : Option Addr} {xs : List Ext'} (h : ExAt W A xs) (hb : Kept W W') : ExAt W' A xs := by
  obtain ⟨es, e, h1, h2⟩ := h
  exact ⟨es, e, h1.kept hb, fun y hy => (h2 y hy).kept hb⟩
theorem LayAt.kept {W W' : World} {p : Where} {L : Lay} (h : LayAt W p L) (hb : Kept W W') : LayAt W' p L :=
  ⟨h.secs.kept hb, h.sigs.kept hb, h.exits.kept hb, h.flanks.kept hb, h.l0, h.l1, h.l2, h.l3, h.kinds⟩
theorem Box.kept {W W' : World} {g : Nat} {L : Lay} {p : Where} (h : Box W g L p) (hb : Kept W W') : Box W' g L p := ⟨Nat.lt_of_lt_of_le h.1 hb.size, fun i v hv => hb.cell _ _ _ (h.2 i v hv)⟩
theorem Kinds.kept {W W' : World} (K : Kinds W) (h : Kept W W') : Kinds W' := ⟨fun o v e => h.cell _ _ _ (K.pnone o v e), fun o v e => h.cell _ _ _ (K.pkind o v e)⟩

/-- The ports that are joined, of the first i ports of a section; of the first n sections. -/
def jn (c : Sec) : Nat → List Prt
  | 0 => []
  | i + 1 => jn c i ++ (if 0 ≤ c.S i then [⟨c.S i, c.P i⟩] else [])
def sj (xs : List Sec) : Nat → List Prt
  | 0 => []
  | n + 1 => sj xs n ++ jn (xs.getD n default) 4
def exP (x : Ext') : Prt := ⟨x.s, x.p⟩
def portsL (L : Lay) : List Prt := sj L.secs L.secs.length ++ (L.sigs ++ L.exits.map exP)
theorem jn_pre (c : Sec) {i j : Nat} (h : i ≤ j) : jn c i <+: jn c j := by
  induction h with
  | refl => exact List.prefix_rfl
  | step _ ih => exact ih.trans (List.prefix_append _ _)
theorem sj_pre (xs : List Sec) {i j : Nat} (h : i ≤ j) : sj xs i <+: sj xs j := by
  induction h with
  | refl => exact List.prefix_rfl
  | step _ ih => exact ih.trans (List.prefix_append _ _)
theorem pre_secs {L : Lay} {n i : Nat} {c : Sec} (hn : n < L.secs.length) (hc : L.secs[n]? = some c) (hi : i ≤ 4) : sj L.secs n ++ jn c i <+: portsL L := by
  have h1 : sj L.secs n ++ jn c i <+: sj L.secs (n + 1) := by
    simp only [sj]
    have : L.secs.getD n default = c := by rw [List.getD_eq_getElem?_getD, hc]; rfl
    rw [this]
    exact (List.prefix_append_right_inj _).2 (jn_pre c hi)
  exact (h1.trans (sj_pre L.secs (by omega))).trans (List.prefix_append _ _)
theorem pre_sigs {L : Lay} {n : Nat} : sj L.secs L.secs.length ++ L.sigs.take n <+: portsL L := by
  unfold portsL
  exact (List.prefix_append_right_inj _).2 ((List.take_prefix _ _).trans (List.prefix_append _ _))
theorem pre_exits {L : Lay} {n : Nat} : sj L.secs L.secs.length ++ (L.sigs ++ (L.exits.take n).map exP) <+: portsL L := by
  unfold portsL
  exact (List.prefix_append_right_inj _).2 ((List.prefix_append_right_inj _).2 (by rw [List.map_take]; exact List.take_prefix _ _))
theorem take_more {α : Type} {xs : List α} {n : Nat} {x : α} (h : xs[n]? = some x) : xs.take (n + 1) = xs.take n ++ [x] := by
  obtain ⟨hn, e⟩ := List.getElem?_eq_some_iff.1 h
  rw [List.take_succ_eq_append_getElem hn, e]
theorem lt_of_pre {α : Type} {p q : List α} {x : α} (h : p ++ [x] <+: q) : p.length < q.length := by
  have := h.length_le
  simp at this
  omega

theorem ports_fn (L : Lay) (p : Where) (w : World) :
    Calls Tryd.prog 50 #[L.val p] w fun e w' => e = .returned (.func (.func 74) #[] #[.pointer (some ⟨w.heap.size, 0, none⟩)]) ∧ w' = w.alloc (.cells (L.cells p).toArray 29) := by
  unfold Lay.val Lay.cells
  go_enter Tryd.func50, Tryd.ntmps50
  go_wp2
  go_ret
  exact ⟨rfl, rfl⟩

set_option maxRecDepth 100000 in
set_option maxHeartbeats 16000000 in
theorem ports1_in (l g n₀ : Nat) (L : Lay) (p : Where) (J Jx : List Prt → World → Prop) (W : World) (hJ : AbidesFrom W.heap.size J)
    (hY : ∀ pre x W1, J pre W1 → pre.length < (portsL L).length → YieldAt Fence.wide 3 Tryd.prog l #[.agg #[.int .i64 (x : Prt).s, .int .i64 x.p]] W1 fun e W' =>
      (e = .returned (.bool true) ∧ J (pre ++ [x]) W' ∧ KeepsE NoB NoT n₀ W1 W') ∨ (e = .returned (.bool false) ∧ Jx (pre ++ [x]) W'))
    (hL : LayAt W p L) (hB : Box W g L p) (hJ0 : J [] W) :
    CallsIn Fence.wide 4 Tryd.prog 74 #[.func (.yield l) #[] #[], .pointer (some ⟨g, 0, none⟩)] W fun e W' => (∃ v, e = .returned v) ∧
      ((∃ ys, ys = portsL L ∧ J ys W') ∨ (∃ pre, (pre <+: portsL L) ∧ Jx pre W')) := by
  have hJg : ∀ s (X Y : World), W.heap.size ≤ X.heap.size → J s X → Below X.heap.size X Y → J s Y := fun s X Y _ hx hb => hJ s X Y none hx ⟨hb.os, hb.tape, hb.output, hb.size, fun k' hk' _ => hb.block k' hk'⟩ (fun r e => by cases e)
  have m0 : L.secs.length ≤ 9223372036854775807 := Nat.le_trans hL.l0.1 hL.l0.2
  have m1 : L.sigs.length ≤ 9223372036854775807 := Nat.le_trans hL.l1.1 hL.l1.2
  have m2 : L.exits.length ≤ 9223372036854775807 := Nat.le_trans hL.l2.1 hL.l2.2
  obtain ⟨a0, a1, a2, a3, p0, p1, p2, p3⟩ := p
  have HL := Lib.hid hL
  have HB := Lib.hid hB
  have HJ := Lib.hid hJg
  have HY := Lib.hid hY
  have c0 := hB.2 0 _ rfl
  have lg := hB.1
  clear hL hB hJg hJ hY
  refine callsIn_of_wp Tryd.func74 rfl trivial ?_ rfl
  simp only [Tryd.ntmps74, List.size_toArray, List.length_cons, List.length_nil, Nat.reduceAdd, Nat.reduceSub, Array.replicate_succ, Array.replicate_zero, List.push_toArray, List.append_toArray, List.nil_append, List.cons_append]
  gi_wp2_with fail
  gi_loopw [14] (fun c wr => ∃ n : Nat, n ≤ L.secs.length ∧ c = .int .i64 n ∧ J (sj L.secs n) wr ∧ Kept W wr) (fun c _ => L.secs.length - (intOf c).toNat)
  case atStart => exact ⟨0, Nat.zero_le _, rfl, hJ0, Kept.refl _⟩
  case round =>
    obtain ⟨n, hn, rfl, hJn, hK⟩ := hrel
    obtain ⟨wo, rfl⟩ : ∃ wo : World, wo = wr := ⟨_, rfl⟩
    have HJn := Lib.hid hJn
    have HK := Lib.hid hK
    clear hJn hK
    by_cases hlt : n < L.secs.length
    · obtain ⟨x, hx⟩ : ∃ x, L.secs[n]? = some x := ⟨L.secs[n], List.getElem?_eq_getElem hlt⟩
      obtain ⟨b, off, hAe, hrow⟩ := (HL.out.kept HK.out).secs.get hlt
      dsimp only at hAe
      subst hAe
      obtain ⟨k0, k1, k2, k3, k4, k5, k6, k7, k8, k9, k10⟩ := sec_cells hrow hx
      have lb := hrow.1
      have hpre := fun i (hi : i ≤ 4) => pre_secs hlt hx hi
      have HP := Lib.hid hpre
      have hdef : L.secs.getD n default = x := by rw [List.getD_eq_getElem?_getD, hx]; rfl
      have HD := Lib.hid hdef
      obtain ⟨k, s0, q0, s1, q1, s2, q2, s3, q3, cl0, cl1⟩ := x
      dsimp only at k0 k1 k2 k3 k4 k5 k6 k7 k8 k9 k10
      clear hrow hx hpre hdef
      gi_wp2_with fail
      obtain ⟨Wm, hWm⟩ : ∃ Wm, Wm = wo.alloc (.cells #[.int .u8 k, .int .i64 s0, .int .i64 q0, .int .i64 s1, .int .i64 q1, .int .i64 s2, .int .i64 q2, .int .i64 s3, .int .i64 q3, .int .i64 cl0, .int .i64 cl1] 48) := ⟨_, rfl⟩
      have hJm : Hid (J (sj L.secs n ++ jn ⟨k, s0, q0, s1, q1, s2, q2, s3, q3, cl0, cl1⟩ 0) Wm) := Lib.hid (by
        rw [hWm]
        simp only [jn, List.append_nil]
        exact HJ.out _ _ _ HK.out.size HJn.out bself)
      have hKm : Hid (Kept W Wm) := Lib.hid (by rw [hWm]; exact HK.out.trans (.of_below bself))
      rw [← hWm]
      clear hWm k0 k1 k2 k3 k4 k5 k6 k7 k8 k9 k10 lb
      gi_loopw [20] (fun c wi => ∃ i : Nat, i ≤ 4 ∧ c = .int .i64 i ∧ Hid (J (sj L.secs n ++ jn ⟨k, s0, q0, s1, q1, s2, q2, s3, q3, cl0, cl1⟩ i) wi) ∧ Hid (Kept W wi)) (fun c _ => 4 - (intOf c).toNat)
      case atStart => exact ⟨0, by omega, rfl, hJm, hKm⟩
      case round =>
        obtain ⟨i, hi, rfl, HJi, HKi⟩ := hrel
        clear hJm hKm
        have cs : i = 0 ∨ i = 1 ∨ i = 2 ∨ i = 3 ∨ i = 4 := by omega
        rcases cs with rfl | rfl | rfl | rfl | rfl
        · by_cases hs : 0 ≤ s0
          · have hd : decide (0 ≤ s0) = true := decide_eq_true hs
            obtain ⟨Wy, hWy⟩ : ∃ Wy, Wy = wr.alloc (.cells #[.int .i64 s0, .int .i64 q0] 37) := ⟨_, rfl⟩
            have By : Below wr.heap.size wr Wy := by rw [hWy]; exact bself
            have Jy := HJ.out _ _ Wy HKi.out.size HJi.out By
            have e : jn ⟨k, s0, q0, s1, q1, s2, q2, s3, q3, cl0, cl1⟩ 1 = jn ⟨k, s0, q0, s1, q1, s2, q2, s3, q3, cl0, cl1⟩ 0 ++ [⟨s0, q0⟩] := by
              rw [jn]
              exact congrArg _ (if_pos hs)
            have hp := HP.out 1 (by omega)
            rw [e, ← List.append_assoc] at hp
            obtain ⟨fn, tmps, assign, body, hyy, hR⟩ := HY.out _ ⟨s0, q0⟩ Wy Jy (lt_of_pre hp)
            have HE := Lib.hid (⟨e, hp, By⟩ : _ ∧ _ ∧ _)
            subst hWy
            clear e hp Jy By
            gi_wp2
            refine hR.mono ?_
            rintro e W3 (⟨rfl, hJ3, hk3⟩ | ⟨rfl, hJx3⟩)
            · have H3 := Lib.hid (⟨hJ3, (HKi.out.trans (.of_below HE.out.2.2)).trans (.of_keeps hk3)⟩ : _ ∧ _)
              clear hJ3 hk3
              gi_wp2
              go_roundw
              case rel => exact ⟨1, by omega, rfl, Lib.hid (by rw [HE.out.1, ← List.append_assoc]; exact H3.out.1), Lib.hid H3.out.2⟩
              case measure => simp [intOf]
            · gi_wp2
              refine bodyPost_ret (results_none rfl _ _ _) rfl ?_
              exact ⟨⟨_, rfl⟩, .inr ⟨_, HE.out.2.1, hJx3⟩⟩
          · have hd : decide (0 ≤ s0) = false := decide_eq_false hs
            have e : jn ⟨k, s0, q0, s1, q1, s2, q2, s3, q3, cl0, cl1⟩ 1 = jn ⟨k, s0, q0, s1, q1, s2, q2, s3, q3, cl0, cl1⟩ 0 := by
              rw [jn]
              exact (congrArg _ (if_neg hs)).trans (List.append_nil _)
            have HE := Lib.hid e
            clear e
            gi_wp2
            refine ⟨fun _ h => (by cases h), ?_⟩
            gi_wp2
            go_roundw
            case rel => exact ⟨1, by omega, rfl, Lib.hid (by rw [HE.out]; exact HJ.out _ _ _ HKi.out.size HJi.out bself), Lib.hid (HKi.out.trans (.of_below bself))⟩
            case measure => simp [intOf]
        · by_cases hs : 0 ≤ s1
          · have hd : decide (0 ≤ s1) = true := decide_eq_true hs
            obtain ⟨Wy, hWy⟩ : ∃ Wy, Wy = wr.alloc (.cells #[.int .i64 s1, .int .i64 q1] 37) := ⟨_, rfl⟩
            have By : Below wr.heap.size wr Wy := by rw [hWy]; exact bself
            have Jy := HJ.out _ _ Wy HKi.out.size HJi.out By
            have e : jn ⟨k, s0, q0, s1, q1, s2, q2, s3, q3, cl0, cl1⟩ 2 = jn ⟨k, s0, q0, s1, q1, s2, q2, s3, q3, cl0, cl1⟩ 1 ++ [⟨s1, q1⟩] := by
              rw [jn]
              exact congrArg _ (if_pos hs)
            have hp := HP.out 2 (by omega)
            rw [e, ← List.append_assoc] at hp
            obtain ⟨fn, tmps, assign, body, hyy, hR⟩ := HY.out _ ⟨s1, q1⟩ Wy Jy (lt_of_pre hp)
            have HE := Lib.hid (⟨e, hp, By⟩ : _ ∧ _ ∧ _)
            subst hWy
            clear e hp Jy By
            gi_wp2
            refine hR.mono ?_
            rintro e W3 (⟨rfl, hJ3, hk3⟩ | ⟨rfl, hJx3⟩)
            · have H3 := Lib.hid (⟨hJ3, (HKi.out.trans (.of_below HE.out.2.2)).trans (.of_keeps hk3)⟩ : _ ∧ _)
              clear hJ3 hk3
              gi_wp2
              go_roundw
              case rel => exact ⟨2, by omega, rfl, Lib.hid (by rw [HE.out.1, ← List.append_assoc]; exact H3.out.1), Lib.hid H3.out.2⟩
              case measure => simp [intOf]
            · gi_wp2
              refine bodyPost_ret (results_none rfl _ _ _) rfl ?_
              exact ⟨⟨_, rfl⟩, .inr ⟨_, HE.out.2.1, hJx3⟩⟩
          · have hd : decide (0 ≤ s1) = false := decide_eq_false hs
            have e : jn ⟨k, s0, q0, s1, q1, s2, q2, s3, q3, cl0, cl1⟩ 2 = jn ⟨k, s0, q0, s1, q1, s2, q2, s3, q3, cl0, cl1⟩ 1 := by
              rw [jn]
              exact (congrArg _ (if_neg hs)).trans (List.append_nil _)
            have HE := Lib.hid e
            clear e
            gi_wp2
            refine ⟨fun _ h => (by cases h), ?_⟩
            gi_wp2
            go_roundw
            case rel => exact ⟨2, by omega, rfl, Lib.hid (by rw [HE.out]; exact HJ.out _ _ _ HKi.out.size HJi.out bself), Lib.hid (HKi.out.trans (.of_below bself))⟩
            case measure => simp [intOf]
        · by_cases hs : 0 ≤ s2
          · have hd : decide (0 ≤ s2) = true := decide_eq_true hs
            obtain ⟨Wy, hWy⟩ : ∃ Wy, Wy = wr.alloc (.cells #[.int .i64 s2, .int .i64 q2] 37) := ⟨_, rfl⟩
            have By : Below wr.heap.size wr Wy := by rw [hWy]; exact bself
            have Jy := HJ.out _ _ Wy HKi.out.size HJi.out By
            have e : jn ⟨k, s0, q0, s1, q1, s2, q2, s3, q3, cl0, cl1⟩ 3 = jn ⟨k, s0, q0, s1, q1, s2, q2, s3, q3, cl0, cl1⟩ 2 ++ [⟨s2, q2⟩] := by
              rw [jn]
              exact congrArg _ (if_pos hs)
            have hp := HP.out 3 (by omega)
            rw [e, ← List.append_assoc] at hp
            obtain ⟨fn, tmps, assign, body, hyy, hR⟩ := HY.out _ ⟨s2, q2⟩ Wy Jy (lt_of_pre hp)
            have HE := Lib.hid (⟨e, hp, By⟩ : _ ∧ _ ∧ _)
            subst hWy
            clear e hp Jy By
            gi_wp2
            refine hR.mono ?_
            rintro e W3 (⟨rfl, hJ3, hk3⟩ | ⟨rfl, hJx3⟩)
            · have H3 := Lib.hid (⟨hJ3, (HKi.out.trans (.of_below HE.out.2.2)).trans (.of_keeps hk3)⟩ : _ ∧ _)
              clear hJ3 hk3
              gi_wp2
              go_roundw
              case rel => exact ⟨3, by omega, rfl, Lib.hid (by rw [HE.out.1, ← List.append_assoc]; exact H3.out.1), Lib.hid H3.out.2⟩
              case measure => simp [intOf]
            · gi_wp2
              refine bodyPost_ret (results_none rfl _ _ _) rfl ?_
              exact ⟨⟨_, rfl⟩, .inr ⟨_, HE.out.2.1, hJx3⟩⟩
          · have hd : decide (0 ≤ s2) = false := decide_eq_false hs
            have e : jn ⟨k, s0, q0, s1, q1, s2, q2, s3, q3, cl0, cl1⟩ 3 = jn ⟨k, s0, q0, s1, q1, s2, q2, s3, q3, cl0, cl1⟩ 2 := by
              rw [jn]
              exact (congrArg _ (if_neg hs)).trans (List.append_nil _)
            have HE := Lib.hid e
            clear e
            gi_wp2
            refine ⟨fun _ h => (by cases h), ?_⟩
            gi_wp2
            go_roundw
            case rel => exact ⟨3, by omega, rfl, Lib.hid (by rw [HE.out]; exact HJ.out _ _ _ HKi.out.size HJi.out bself), Lib.hid (HKi.out.trans (.of_below bself))⟩
            case measure => simp [intOf]
        · by_cases hs : 0 ≤ s3
          · have hd : decide (0 ≤ s3) = true := decide_eq_true hs
            obtain ⟨Wy, hWy⟩ : ∃ Wy, Wy = wr.alloc (.cells #[.int .i64 s3, .int .i64 q3] 37) := ⟨_, rfl⟩
            have By : Below wr.heap.size wr Wy := by rw [hWy]; exact bself
            have Jy := HJ.out _ _ Wy HKi.out.size HJi.out By
            have e : jn ⟨k, s0, q0, s1, q1, s2, q2, s3, q3, cl0, cl1⟩ 4 = jn ⟨k, s0, q0, s1, q1, s2, q2, s3, q3, cl0, cl1⟩ 3 ++ [⟨s3, q3⟩] := by
              rw [jn]
              exact congrArg _ (if_pos hs)
            have hp := HP.out 4 (by omega)
            rw [e, ← List.append_assoc] at hp
            obtain ⟨fn, tmps, assign, body, hyy, hR⟩ := HY.out _ ⟨s3, q3⟩ Wy Jy (lt_of_pre hp)
            have HE := Lib.hid (⟨e, hp, By⟩ : _ ∧ _ ∧ _)
            subst hWy
            clear e hp Jy By
            gi_wp2
            refine hR.mono ?_
            rintro e W3 (⟨rfl, hJ3, hk3⟩ | ⟨rfl, hJx3⟩)
            · have H3 := Lib.hid (⟨hJ3, (HKi.out.trans (.of_below HE.out.2.2)).trans (.of_keeps hk3)⟩ : _ ∧ _)
              clear hJ3 hk3
              gi_wp2
              go_roundw
              case rel => exact ⟨4, by omega, rfl, Lib.hid (by rw [HE.out.1, ← List.append_assoc]; exact H3.out.1), Lib.hid H3.out.2⟩
              case measure => simp [intOf]
            · gi_wp2
              refine bodyPost_ret (results_none rfl _ _ _) rfl ?_
              exact ⟨⟨_, rfl⟩, .inr ⟨_, HE.out.2.1, hJx3⟩⟩
          · have hd : decide (0 ≤ s3) = false := decide_eq_false hs
            have e : jn ⟨k, s0, q0, s1, q1, s2, q2, s3, q3, cl0, cl1⟩ 4 = jn ⟨k, s0, q0, s1, q1, s2, q2, s3, q3, cl0, cl1⟩ 3 := by
              rw [jn]
              exact (congrArg _ (if_neg hs)).trans (List.append_nil _)
            have HE := Lib.hid e
            clear e
            gi_wp2
            refine ⟨fun _ h => (by cases h), ?_⟩
            gi_wp2
            go_roundw
            case rel => exact ⟨4, by omega, rfl, Lib.hid (by rw [HE.out]; exact HJ.out _ _ _ HKi.out.size HJi.out bself), Lib.hid (HKi.out.trans (.of_below bself))⟩
            case measure => simp [intOf]
        · gi_wp2
          go_roundw
          case rel => exact ⟨n + 1, by omega, by go_num, by simp only [sj]; rw [HD.out]; exact HJi.out, HKi.out⟩
          case measure => simp [intOf]; omega
    · obtain rfl : n = L.secs.length := by omega
      have hB := HB.out.kept HK.out
      have lg' := hB.1
      have c1 := hB.2 1 _ rfl
      have c2 := hB.2 2 _ rfl
      clear hB
      gi_wp2_with fail
      gi_loopw [37] (fun c wr => ∃ n : Nat, n ≤ L.sigs.length ∧ c = .int .i64 n ∧ J (sj L.secs L.secs.length ++ L.sigs.take n) wr ∧ Kept W wr) (fun c _ => L.sigs.length - (intOf c).toNat)
      case atStart => exact ⟨0, Nat.zero_le _, rfl, by simpa using HJn.out, HK.out⟩
      case round =>
        obtain ⟨n, hn, rfl, hJn, hK⟩ := hrel
        clear c1 c2 HJn HK
        have HJn := Lib.hid hJn
        have HK := Lib.hid hK
        clear hJn hK
        by_cases hlt : n < L.sigs.length
        · obtain ⟨x, hx⟩ : ∃ x, L.sigs[n]? = some x := ⟨L.sigs[n], List.getElem?_eq_getElem hlt⟩
          obtain ⟨b, off, hAe, hrow⟩ := (HL.out.kept HK.out).sigs.get hlt
          dsimp only at hAe
          subst hAe
          have k0 : wr.cell? ⟨b, off + n * 2, none⟩ = some (.int .i64 x.s) := hrow.2 n x hx 0 _ rfl
          have k1 : wr.cell? ⟨b, off + n * 2 + 1, none⟩ = some (.int .i64 x.p) := hrow.2 n x hx 1 _ rfl
          have lb := hrow.1
          have e := take_more hx
          have hp := pre_sigs (L := L) (n := n + 1)
          rw [e, ← List.append_assoc] at hp
          obtain ⟨s, q⟩ := x
          dsimp only at k0 k1
          obtain ⟨Wy, hWy⟩ : ∃ Wy, Wy = wr.alloc (.cells #[.int .i64 s, .int .i64 q] 51) := ⟨_, rfl⟩
          have By : Below wr.heap.size wr Wy := by rw [hWy]; exact bself
          have Jy := HJ.out _ _ Wy HK.out.size HJn.out By
          obtain ⟨fn, tmps, assign, body, hyy, hR⟩ := HY.out _ ⟨s, q⟩ Wy Jy (lt_of_pre hp)
          have HE := Lib.hid (⟨e, hp, By⟩ : _ ∧ _ ∧ _)
          subst hWy
          clear e hp Jy By hrow hx
          gi_wp2
          refine hR.mono ?_
          rintro e W3 (⟨rfl, hJ3, hk3⟩ | ⟨rfl, hJx3⟩)
          · have H3 := Lib.hid (⟨hJ3, (HK.out.trans (.of_below HE.out.2.2)).trans (.of_keeps hk3)⟩ : _ ∧ _)
            clear hJ3 hk3
            gi_wp2
            go_roundw
            case rel => exact ⟨n + 1, by omega, by go_num, by rw [HE.out.1, ← List.append_assoc]; exact H3.out.1, H3.out.2⟩
            case measure => simp [intOf]; omega
          · gi_wp2
            refine bodyPost_ret (results_none rfl _ _ _) rfl ?_
            exact ⟨⟨_, rfl⟩, .inr ⟨_, HE.out.2.1, hJx3⟩⟩
        · obtain rfl : n = L.sigs.length := by omega
          have hB := HB.out.kept HK.out
          have lg'' := hB.1
          have c2 := hB.2 2 _ rfl
          clear hB
          gi_wp2_with fail
          gi_loopw [50] (fun c wr => ∃ n : Nat, n ≤ L.exits.length ∧ c = .int .i64 n ∧ J (sj L.secs L.secs.length ++ (L.sigs ++ (L.exits.take n).map exP)) wr ∧ Kept W wr) (fun c _ => L.exits.length - (intOf c).toNat)
          case atStart => exact ⟨0, Nat.zero_le _, rfl, by simpa using HJn.out, HK.out⟩
          case round =>
            obtain ⟨n, hn, rfl, hJn, hK⟩ := hrel
            clear c2 HJn HK
            have HJn := Lib.hid hJn
            have HK := Lib.hid hK
            clear hJn hK
            by_cases hlt : n < L.exits.length
            · obtain ⟨es, hes, hAt, hov⟩ := (HL.out.kept HK.out).exits
              have hlen : es.length = L.exits.length := by rw [← hes, List.length_map]
              obtain ⟨b, off, hAe, hrow⟩ := hAt.get (j := n) (by omega)
              dsimp only at hAe
              subst hAe
              obtain ⟨y, hy⟩ : ∃ y, es[n]? = some y := ⟨es[n]'(by omega), List.getElem?_eq_getElem (by omega)⟩
              have hx : L.exits[n]? = some y.1 := by rw [← hes, List.getElem?_map, hy]; rfl
              have k0 : wr.cell? ⟨b, off + n * 3, none⟩ = some (.int .i64 y.1.s) := hrow.2 n y hy 0 _ rfl
              have k1 : wr.cell? ⟨b, off + n * 3 + 1, none⟩ = some (.int .i64 y.1.p) := hrow.2 n y hy 1 _ rfl
              have k2 : wr.cell? ⟨b, off + n * 3 + 2, none⟩ = some y.2 := hrow.2 n y hy 2 _ rfl
              obtain ⟨vA, vc, ve, _, _, _⟩ := hov y (List.mem_of_getElem? hy)
              obtain ⟨m, hm⟩ : ∃ m, m = y.1.over.length := ⟨_, rfl⟩
              rw [ve, ← hm] at k2
              have lb := hrow.1
              have e := take_more hx
              have hp := pre_exits (L := L) (n := n + 1)
              have em : (L.exits.take (n + 1)).map exP = (L.exits.take n).map exP ++ [⟨y.1.s, y.1.p⟩] := by rw [e, List.map_append]; rfl
              rw [em, ← List.append_assoc, ← List.append_assoc] at hp
              obtain ⟨s, hs⟩ : ∃ s, s = y.1.s := ⟨_, rfl⟩
              obtain ⟨q, hq⟩ : ∃ q, q = y.1.p := ⟨_, rfl⟩
              rw [← hs] at k0
              rw [← hq] at k1
              rw [← hs, ← hq] at hp em
              obtain ⟨Wy, hWy⟩ : ∃ Wy, Wy = wr.alloc (.cells #[.int .i64 s, .int .i64 q, .slice vA m vc] 40) := ⟨_, rfl⟩
              have By : Below wr.heap.size wr Wy := by rw [hWy]; exact bself
              have Jy := HJ.out _ _ Wy HK.out.size HJn.out By
              rw [← List.append_assoc] at Jy
              obtain ⟨fn, tmps, assign, body, hyy, hR⟩ := HY.out _ ⟨s, q⟩ Wy Jy (lt_of_pre hp)
              have HE := Lib.hid (⟨em, hp, By⟩ : _ ∧ _ ∧ _)
              subst hWy
              clear e em hp Jy By hrow hx hy hes hAt hov hlen ve hm hs hq
              gi_wp2
              refine hR.mono ?_
              rintro e W3 (⟨rfl, hJ3, hk3⟩ | ⟨rfl, hJx3⟩)
              · have H3 := Lib.hid (⟨hJ3, (HK.out.trans (.of_below HE.out.2.2)).trans (.of_keeps hk3)⟩ : _ ∧ _)
                clear hJ3 hk3
                gi_wp2
                go_roundw
                case rel => exact ⟨n + 1, by omega, by go_num, by rw [HE.out.1, ← List.append_assoc, ← List.append_assoc]; exact H3.out.1, H3.out.2⟩
                case measure => simp [intOf]; omega
              · gi_wp2
                refine bodyPost_ret (results_none rfl _ _ _) rfl ?_
                exact ⟨⟨_, rfl⟩, .inr ⟨_, HE.out.2.1, hJx3⟩⟩
            · obtain rfl : n = L.exits.length := by omega
              gi_wp2
              go_end0
              exact ⟨⟨_, rfl⟩, .inl ⟨_, rfl, by simpa [portsL] using HJn.out⟩⟩
end Go.Proofs.YtmnkgnoljllnnaaDoor

/-
  A region whose last operations wait for all the others: the others go in whatever order, under a condition S of their own; then the last ones in the order of the text.
-/
namespace Go.Proofs.YtmnkgnoljllnnaaDoor

section
variable {P : Program} {ops : Array Oper} {Q : Exit → Act → World → Prop} {md : Region.Mode}

theorem wpAny_more : ∀ (f : Nat) (listed : Array Bool) (a : Act) (w : World), wpAny P md ops Q f listed a w → wpAny P md ops Q (f + 1) listed a w
  | 0, _, _, _, h => ⟨fun _ => h.2, fun i hi => by rw [h.1] at hi; cases hi⟩
  | f + 1, _, _, _, h => ⟨h.1, fun i hi => wpOp_mono (fun a' w' h' => wpAny_more f _ a' w' h') (h.2 i hi)⟩
theorem wpAny_pad (f : Nat) (listed : Array Bool) (a : Act) (w : World) (h : wpAny P md ops Q f listed a w) : ∀ d : Nat, wpAny P md ops Q (d + f) listed a w
  | 0 => by rw [Nat.zero_add]; exact h
  | d + 1 => by rw [show d + 1 + f = d + f + 1 by omega]; exact wpAny_more _ _ _ _ (wpAny_pad f listed a w h d)

/-- The post of the head: at its end the tail goes. -/
def headPost (P : Program) (ops : Array Oper) (tl : List Oper) (Q : Exit → Act → World → Prop) : Exit → Act → World → Prop
  | .normal, a, w => wpList P ops Q tl a w
  | e, a, w => Q e a w

/-- The head's operations wait for earlier ones, and are guarded by the head's. -/
def headB (md : Region.Mode) (ops : Array Oper) (n : Nat) : Bool :=
  (List.range n).all fun i => match ops[i]? with
    | none => false
    | some o => o.after.all (fun e => !Region.binds md e || decide (e.on < i)) && (match o.guard with | none => true | some (j, _) => decide (j < n))
theorem headB_spec {n i : Nat} (h : headB md ops n = true) (hi : i < n) : ∃ o, ops[i]? = some o ∧ (∀ e ∈ o.after, Region.binds md e = true → e.on < i) ∧ (∀ j b, o.guard = some (j, b) → j < n) := by
  have h1 := List.all_eq_true.1 h i (List.mem_range.2 hi)
  revert h1
  cases ho : ops[i]? with
  | none => intro h1; cases h1
  | some o =>
    intro h1
    simp only [Bool.and_eq_true] at h1
    refine ⟨o, rfl, fun e he hb => ?_, fun j b hg => ?_⟩
    · have h2 := Array.all_eq_true'.1 h1.1 e he
      simpa [hb] using h2
    · have h2 := h1.2
      rw [hg] at h2
      simpa using h2

theorem oper_wp_post {o : Oper} {a : Act} {w : World} {K : Act → World → Prop} {tl : List Oper} (h : o.wp P a w K (headPost P ops tl Q)) : o.wp P a w K Q := by
  unfold Oper.wp at *
  generalize (execOp a.eval o).run P w = r at *
  cases r with
  | ok n w' =>
    cases n <;> simp only [Oper.upon] at h ⊢ <;>
      first
        | exact h
        | exact Calls.mono h (fun e w'' he => by cases e <;> exact he)
  | halt x w' => cases x <;> simp only [Oper.upon] at h ⊢ <;> exact h
theorem letsOut_post {tl : List Oper} (h : LetsOut (headPost P ops tl Q)) : LetsOut Q := h

theorem wpOp_head {hd tl : List Oper} {i : Nat} {K K' : Act → World → Prop} {a : Act} {w : World} (hB : headB md (hd ++ tl).toArray hd.length = true) (hi : i < hd.length) (hK : ∀ a w, K a w → K' a w)
    (h : wpOp P hd.toArray (headPost P (hd ++ tl).toArray tl Q) i K a w) : wpOp P (hd ++ tl).toArray Q i K' a w := by
  obtain ⟨o, ho, _, hg⟩ := headB_spec hB hi
  have ho' : hd.toArray[i]? = some o := by
    simpa [List.getElem?_append_left hi] using ho
  refine wpOp_mono hK ?_
  unfold wpOp at *
  simp only [ho] at ⊢
  simp only [ho'] at h
  have hw : Region.wanted o (yielded (hd ++ tl).toArray a.tmps) = Region.wanted o (yielded hd.toArray a.tmps) := by
    unfold Region.wanted
    cases hgo : o.guard with
    | none => rfl
    | some p =>
      obtain ⟨j, b⟩ := p
      have hj := hg j b hgo
      have e : (hd ++ tl).toArray[j]? = hd.toArray[j]? := by simp [List.getElem?_append_left hj]
      simp only [yielded, e]
  rw [hw]
  split
  · rename_i hw
    simp only [hw, if_true] at h
    exact h.imp oper_wp_post (fun h => ⟨h.1, letsOut_post h.2⟩)
  · rename_i hw
    simp only [hw] at h
    exact h

theorem getD_of {xs ys : Array Bool} {i : Nat} {d : Bool} (h : xs[i]? = ys[i]?) : xs.getD i d = ys.getD i d := by
  simp only [Array.getD_eq_getD_getElem?, h]

theorem ready_head {hd tl : List Oper} {lh listed : Array Bool} {i : Nat} (hB : headB md (hd ++ tl).toArray hd.length = true) (hi : i < hd.length)
    (hr : ∀ j, j < hd.length → lh[j]? = listed[j]?) : i ∈ Region.ready md (hd ++ tl).toArray listed ↔ i ∈ Region.ready md hd.toArray lh := by
  obtain ⟨o, ho, he, _⟩ := headB_spec hB hi
  have ho' : hd.toArray[i]? = some o := by
    simpa [List.getElem?_append_left hi] using ho
  rw [mem_ready, mem_ready, getD_of (hr i hi)]
  constructor
  · rintro ⟨h1, o1, h2, h3⟩
    obtain rfl : o1 = o := Option.some.inj (h2.symm.trans ho)
    exact ⟨h1, o1, ho', fun e h4 hb => (getD_of (hr e.on (by have := he e h4 hb; omega))).trans (h3 e h4 hb)⟩
  · rintro ⟨h1, o1, h2, h3⟩
    obtain rfl : o1 = o := Option.some.inj (h2.symm.trans ho')
    exact ⟨h1, o1, ho, fun e h4 hb => (getD_of (hr e.on (by have := he e h4 hb; omega))).symm.trans (h3 e h4 hb)⟩

/-- Some operation of the head is left: then one may come up. -/
theorem ready_some {n : Nat} {listed : Array Bool} (hB : headB md ops n = true) (hn : n ≤ listed.size) : ∀ (i : Nat), i < n → listed.getD i true = false → ∃ j, j < n ∧ j ∈ Region.ready md ops listed := by
  intro i
  induction i using Nat.strongRecOn with
  | _ i ih =>
    intro hi hu
    obtain ⟨o, ho, he, _⟩ := headB_spec hB hi
    by_cases h : ∀ e ∈ o.after, Region.binds md e = true → listed.getD e.on false = true
    · exact ⟨i, hi, mem_ready.2 ⟨hu, o, ho, h⟩⟩
    · simp only [Classical.not_forall] at h
      obtain ⟨e, he1, hb, h⟩ := h
      have hlt := he e he1 hb
      exact ih e.on hlt (by omega) (getD_in (by omega) (by simpa using h))

/-- The head, then the tail. -/
theorem wpAny_split {hd tl : List Oper} (hB : headB md (hd ++ tl).toArray hd.length = true) (hs : Region.sinkB md (hd ++ tl).toArray hd.length = true) (hc : Region.chainB md (hd ++ tl).toArray hd.length = true) (ht : 0 < tl.length)
    (hq : Region.seqB md (hd ++ tl).toArray tl.length hd.length (List.replicate hd.length true ++ List.replicate tl.length false).toArray = true) :
    ∀ (f : Nat) (lh listed : Array Bool) (a : Act) (w : World), HeadInv md (hd ++ tl).toArray hd.length listed → (∀ j, j < hd.length → lh[j]? = listed[j]?) →
      wpAny P md hd.toArray (headPost P (hd ++ tl).toArray tl Q) f lh a w → wpAny P md (hd ++ tl).toArray Q (f + tl.length) listed a w := by
  have hsz : (hd ++ tl).toArray.size = hd.length + tl.length := by simp
  have done : ∀ (f : Nat) (lh listed : Array Bool) (a : Act) (w : World), HeadInv md (hd ++ tl).toArray hd.length listed → (∀ j, j < hd.length → lh[j]? = listed[j]?) → Region.ready md hd.toArray lh = [] →
      wpList P (hd ++ tl).toArray Q tl a w → wpAny P md (hd ++ tl).toArray Q (f + tl.length) listed a w := by
    intro f lh listed a w inv hr h0 h
    have hall : ∀ i, i < hd.length → listed.getD i true = true := fun i hi => by
      cases hx : listed.getD i true with
      | true => rfl
      | false =>
        obtain ⟨j, hj, hjr⟩ := ready_some hB (by rw [inv.size, hsz]; omega) i hi hx
        have := (ready_head hB hj hr).1 hjr
        rw [h0] at this
        cases this
    have hl : listed = (List.replicate hd.length true ++ List.replicate tl.length false).toArray := by
      apply Array.ext
      · simp [inv.size]
      · intro i h1 h2
        rcases Nat.lt_or_ge i hd.length with hi | hi
        · have := hall i hi
          rw [Array.getD_eq_getD_getElem?, Array.getElem?_eq_getElem h1] at this
          simpa [List.getElem_append, hi] using this
        · have hi' : i < hd.length + tl.length := by rw [inv.size, hsz] at h1; exact h1
          have := inv.tail i hi (by rw [hsz]; exact hi')
          rw [Array.getD_eq_getD_getElem?, Array.getElem?_eq_getElem h1] at this
          simpa [List.getElem_append, Nat.not_lt.2 hi] using this
    refine wpAny_pad _ _ _ _ ?_ f
    refine wpAny_of_seq tl hd.length listed a w (fun j => by rw [List.getElem?_toArray, List.getElem?_append_right (Nat.le_add_right _ _), Nat.add_sub_cancel_left]) ?_ h
    rw [hl]
    exact hq
  intro f
  induction f with
  | zero => exact fun lh listed a w inv hr h => done 0 lh listed a w inv hr h.1 h.2
  | succ f ih =>
    intro lh listed a w inv hr h
    by_cases h0 : Region.ready md hd.toArray lh = []
    · exact done (f + 1) lh listed a w inv hr h0 (h.1 h0)
    · obtain ⟨i0, hi0⟩ := List.exists_mem_of_ne_nil _ h0
      have hlt0 : i0 < hd.length := by
        obtain ⟨_, o, ho, _⟩ := mem_ready.1 hi0
        simpa using (Array.getElem?_eq_some_iff.1 ho).1
      have hu0 : listed.getD i0 true = false := (getD_of (hr i0 hlt0)).symm.trans (mem_ready.1 hi0).1
      rw [show f + 1 + tl.length = f + tl.length + 1 by omega]
      refine ⟨fun h1 => ?_, fun i hi => ?_⟩
      · have := (ready_head hB hlt0 hr).2 hi0
        rw [h1] at this
        cases this
      · have hin : i < hd.length := by
          rcases Nat.lt_or_ge i hd.length with h | h
          · exact h
          · exact absurd hi (tail_waits hs hc (by rw [hsz]; omega) inv _ i0 rfl hlt0 hu0 i h)
        refine wpOp_head hB hin (fun a' w' h' => ih _ _ a' w' (inv.set hi hin) (fun j hj => ?_) h') (h.2 i ((ready_head hB hin hr).1 hi))
        have hs1 : lh.size = lh.size := rfl
        by_cases hij : i = j
        · subst hij
          have e := hr i hin
          have hlt : i < listed.size := by rw [inv.size, hsz]; omega
          have hlt' : i < lh.size := by
            rcases Nat.lt_or_ge i lh.size with h | h
            · exact h
            · rw [Array.getElem?_eq_none h, Array.getElem?_eq_getElem hlt] at e
              cases e
          simp [hlt, hlt']
        · rw [Array.getElem?_setIfInBounds_ne hij, Array.getElem?_setIfInBounds_ne hij]
          exact hr j hj

/-- A region that draws: its first n operations in whatever order, under S; then the others, which wait for them, in the text's order. -/
theorem wp_region_head {id : Nat} {a : Act} {w : World} {l : List Oper} (n : Nat) (S : World → Prop) (hm : P.follows .mixedOrders = true) (hn : decide (n < l.length) = true)
    (hB : headB .any (l.take n ++ l.drop n).toArray (l.take n).length = true) (hs : Region.sinkB .any (l.take n ++ l.drop n).toArray (l.take n).length = true) (hc : Region.chainB .any (l.take n ++ l.drop n).toArray (l.take n).length = true)
    (hq : Region.seqB .any (l.take n ++ l.drop n).toArray (l.drop n).length (l.take n).length (List.replicate (l.take n).length true ++ List.replicate (l.drop n).length false).toArray = true)
    (hS : S w.drew) (h : S w.drew → wpAnyH P .any (l.take n).toArray (headPost P l.toArray (l.drop n) Q) S n (Array.replicate n false) a w.drew) : (Code.region id l.toArray true).wp P Q a w := by
  have hn' : n < l.length := by simpa using hn
  have e : l.take n ++ l.drop n = l := List.take_append_drop n l
  refine wp_region_any hm ?_
  have H := wpAny_split (P := P) (Q := Q) hB hs hc (by simp; omega) hq n (Array.replicate n false) (Array.replicate l.toArray.size false) a w.drew
    ⟨by rw [e]; simp, fun j oj _ hl => (by rw [getD_replicate_false] at hl; cases hl), fun t _ ht => getD_in (by rw [e] at ht; simpa using ht) (getD_replicate_false _ _)⟩
    (fun j hj => by
      have : j < n := by simp at hj; omega
      simp [this, show j < l.length by omega])
    (by rw [e]; exact wpAny_of_held _ _ _ _ (h hS))
  have hl : n + (l.drop n).length = l.toArray.size := by simp; omega
  rw [hl, e] at H
  exact H
end
end Go.Proofs.YtmnkgnoljllnnaaDoor

/-
  A region that draws its order, told by relations: each operation, whenever it comes up behind those for which it waits, leaves a value that meets a relation of its own, which no later operation breaks; so at the end all relations hold, whatever the order was.
-/
namespace Go.Proofs.YtmnkgnoljllnnaaDoor
open Go.RowKit

/-- What is known of an operation's value. -/
abbrev Rel := Value → World → Prop
/-- A temporary at which an operation looks: written by which of the operations ahead (0: the one just ahead), or by none yet. -/
abbrev Look := Nat × Option Nat
/-- What one operation looks at; its guard's temporary. -/
abbrev Looks := List Look × Option (Nat × Bool)

section
variable (P : Program) (C : World → Prop) (St : World → World → Prop) (a0 : Act)

/-- What an operand that is no temporary holds. -/
structure Consts (ρ : Operand → Value) : Prop where
  const : ∀ v, ρ (.const v) = v
  global : ∀ g, ρ (.global g) = .pointer (some ⟨g, 0, none⟩)
  func : ∀ f, ρ (.func f) = .func (.func f) #[] #[]

def seen (known : List Rel) (ρ : Operand → Value) (w : World) : List Look → Prop → Prop
  | [], G => G
  | (t, some d) :: r, G => (known.getD d fun _ _ => True) (ρ (.tmp t)) w → seen known ρ w r G
  | (t, none) :: r, G => ρ (.tmp t) = a0.eval (.tmp t) → seen known ρ w r G

def relUpon (w : World) (T : Rel) : Result Next → Prop
  | .ok (.value v) w' => C w' ∧ St w w' ∧ T v w'
  | .ok .skip w' => C w' ∧ St w w' ∧ T undef w'
  | .ok (.enter f args) w' => Calls P f args w' fun e w'' => ∃ v, e = .returned v ∧ C w'' ∧ St w w'' ∧ T v w''
  | _ => False

def obOp (o : Oper) (gd : Option (Nat × Bool)) (T : Rel) (ρ : Operand → Value) (w : World) : Prop :=
  match gd with
  | none => relUpon P C St w T ((execOp ρ o).run P w)
  | some (t, b) => (ρ (.tmp t) = .bool b → relUpon P C St w T ((execOp ρ o).run P w)) ∧ (ρ (.tmp t) ≠ .bool b → T undef w)

/-- What is owed of the operations, in the order of the text. -/
def obFrom (fin : List Rel → Prop) : List Oper → List Looks → List Rel → Prop
  | [], _, known => fin known
  | o :: os, ls :: lss, known => ∃ T : Rel, (∀ v w w', T v w → St w w' → T v w') ∧ (∀ ρ w, Consts ρ → C w → seen a0 known ρ w ls.1 (obOp P C St o ls.2 T ρ w)) ∧ obFrom fin os lss (T :: known)
  | _ :: _, [], _ => False
end

/-! ### The Bool -/
def waitsB (ops : Array Oper) (i j : Nat) : Bool := match ops[i]? with
  | some o => o.after.any fun e => Region.binds .any e && e.on == j
  | none => false
def writesB (ops : Array Oper) (j t : Nat) : Bool := match ops[j]? with
  | some o => o.dst == some t
  | none => false
def lookB (ops : Array Oper) (i : Nat) : Look → Bool
  | (t, some d) => decide (d < i) && writesB ops (i - 1 - d) t && waitsB ops i (i - 1 - d)
  | (t, none) => (List.range ops.size).all fun j => !writesB ops j t || j == i || waitsB ops j i
def guardB (ops : Array Oper) (o : Oper) : Option (Nat × Bool) → Bool
  | none => o.guard.isNone
  | some (t, b) => match o.guard with
    | some (g, b') => writesB ops g t && b' == b
    | none => false
def opB (ops : Array Oper) (N i : Nat) (o : Oper) (ls : Looks) : Bool :=
  (match o.op with | .select .. => false | _ => true) &&
  (match o.dst with | some d => decide (d < N) && (List.range ops.size).all (fun j => j == i || !writesB ops j d) | none => true) &&
  (o.op.operands.all fun x => match x with | .tmp t => ls.1.any (fun l => l.1 == t) | _ => true) &&
  ls.1.all (lookB ops i) && guardB ops o ls.2 && o.after.all (fun e => !Region.binds .any e || decide (e.on < i))
def relB (ops : Array Oper) (N : Nat) (lss : List Looks) : Bool :=
  (List.range ops.size).all fun i => match ops[i]?, lss[i]? with
    | some o, some ls => opB ops N i o ls
    | _, _ => false

section
variable {P : Program} {ops : Array Oper} {C : World → Prop} {St : World → World → Prop} {a0 : Act}

theorem seen_elim {known : List Rel} {ρ : Operand → Value} {w : World} {G : Prop} : ∀ {ls : List Look}, seen a0 known ρ w ls G → (∀ t d, (t, some d) ∈ ls → (known.getD d fun _ _ => True) (ρ (.tmp t)) w) → (∀ t, (t, none) ∈ ls → ρ (.tmp t) = a0.eval (.tmp t)) → G
  | [], h, _, _ => h
  | (t, some d) :: _, h, h1, h2 => seen_elim (h (h1 t d (List.mem_cons_self ..))) (fun t' d' hm => h1 t' d' (List.mem_cons_of_mem _ hm)) (fun t' hm => h2 t' (List.mem_cons_of_mem _ hm))
  | (t, none) :: _, h, h1, h2 => seen_elim (h (h2 t (List.mem_cons_self ..))) (fun t' d' hm => h1 t' d' (List.mem_cons_of_mem _ hm)) (fun t' hm => h2 t' (List.mem_cons_of_mem _ hm))

/-- The relations of all, and what is owed of each. -/
theorem ob_all {fin : List Rel → Prop} : ∀ (os : List Oper) (lss : List Looks) (known : List Rel), obFrom P C St a0 fin os lss known →
    ∃ R : List Rel, R.length = os.length ∧ fin (R.reverse ++ known) ∧ ∀ i o ls, os[i]? = some o → lss[i]? = some ls →
      (∀ v w w', (R.getD i fun _ _ => True) v w → St w w' → (R.getD i fun _ _ => True) v w') ∧
      ∀ ρ w, Consts ρ → C w → seen a0 ((R.take i).reverse ++ known) ρ w ls.1 (obOp P C St o ls.2 (R.getD i fun _ _ => True) ρ w)
  | [], _, known, h => ⟨[], rfl, h, fun i o ls ho _ => by simp at ho⟩
  | o :: os, [], known, h => h.elim
  | o :: os, ls :: lss, known, h => by
    obtain ⟨T, hT, hob, hr⟩ := h
    obtain ⟨R, hl, hf, hall⟩ := ob_all os lss (T :: known) hr
    refine ⟨T :: R, by simp [hl], by simpa using hf, fun i o' ls' ho hls => ?_⟩
    cases i with
    | zero =>
      simp only [List.getElem?_cons_zero, Option.some.injEq] at ho hls
      subst ho hls
      exact ⟨hT, hob⟩
    | succ i =>
      simp only [List.getElem?_cons_succ] at ho hls
      have := hall i o' ls' ho hls
      simpa using this

structure RInv (ops : Array Oper) (C : World → Prop) (a0 : Act) (R : List Rel) (listed : Array Bool) (a : Act) (w : World) : Prop where
  cls : C w
  defers : a.defers = a0.defers
  size : a.tmps.size = a0.tmps.size
  lsize : listed.size = ops.size
  facts : ∀ j o t, ops[j]? = some o → o.dst = some t → listed.getD j false = true → (R.getD j fun _ _ => True) (a.eval (.tmp t)) w
  olds : ∀ t, (∀ j, writesB ops j t = true → listed.getD j false = false) → a.eval (.tmp t) = a0.eval (.tmp t)
  down : ∀ j k, listed.getD j false = true → waitsB ops j k = true → listed.getD k false = true

theorem writesB_spec {j t : Nat} (h : writesB ops j t = true) : ∃ o, ops[j]? = some o ∧ o.dst = some t := by
  unfold writesB at h
  cases ho : ops[j]? with
  | none => simp [ho] at h
  | some o => simp only [ho] at h; exact ⟨o, rfl, by simpa using h⟩
theorem writesB_of {j t : Nat} {o : Oper} (ho : ops[j]? = some o) (hd : o.dst = some t) : writesB ops j t = true := by
  unfold writesB; simp [ho, hd]
theorem waitsB_spec {i j : Nat} (h : waitsB ops i j = true) : ∃ o, ops[i]? = some o ∧ ∃ e ∈ o.after, Region.binds .any e = true ∧ e.on = j := by
  unfold waitsB at h
  cases ho : ops[i]? with
  | none => simp [ho] at h
  | some o =>
    simp only [ho, Array.any_eq_true'] at h
    obtain ⟨e, he, hb⟩ := h
    simp only [Bool.and_eq_true, beq_iff_eq] at hb
    exact ⟨o, rfl, e, he, hb⟩

theorem eval_put_ne {a : Act} {d t : Nat} {v : Value} (h : d ≠ t) : (a.put (some d) v).eval (.tmp t) = a.eval (.tmp t) := by
  simp [Act.eval, Act.put, Array.getElem?_setIfInBounds_ne h]
theorem eval_put_eq {a : Act} {d : Nat} {v : Value} (h : d < a.tmps.size) : (a.put (some d) v).eval (.tmp d) = v := by
  simp [Act.eval, Act.put, h]

theorem wanted_of_guard {N : Nat} {o : Oper} {ls : Looks} {a : Act} (hsz : a.tmps.size = N) (hN : ∀ j t, writesB ops j t = true → t < N) (h : guardB ops o ls.2 = true) :
    match ls.2 with
    | none => Region.wanted o (yielded ops a.tmps) = true
    | some (t, b) => (Region.wanted o (yielded ops a.tmps) = true ↔ a.eval (.tmp t) = .bool b) := by
  obtain ⟨l1, gd⟩ := ls
  cases gd with
  | none =>
    simp only [guardB, Option.isNone_iff_eq_none] at h
    simp [Region.wanted, h]
  | some p =>
    obtain ⟨t, b⟩ := p
    simp only [guardB] at h
    cases hg : o.guard with
    | none => simp [hg] at h
    | some q =>
      obtain ⟨g, b'⟩ := q
      simp only [hg, Bool.and_eq_true, beq_iff_eq] at h
      obtain ⟨h1, rfl⟩ := h
      obtain ⟨og, ho, hd⟩ := writesB_spec h1
      have ht : t < a.tmps.size := by rw [hsz]; exact hN _ _ h1
      have e : a.tmps[t]? = some (a.eval (.tmp t)) := by simp [Act.eval, ht]
      dsimp only
      simp only [Region.wanted, hg, yielded, ho, Option.bind_some, hd, e]
      cases hv : a.eval (.tmp t) <;> simp

theorem wp_of_relUpon {Q : Exit → Act → World → Prop} {o : Oper} {a : Act} {w : World} {T : Rel} {K : Act → World → Prop} (h : relUpon P C St w T ((execOp a.eval o).run P w))
    (hK : ∀ v w', C w' → St w w' → T v w' → K (a.put o.dst v) w') : o.wp P a w K Q := by
  unfold Oper.wp
  generalize (execOp a.eval o).run P w = r at *
  cases r with
  | ok n w' =>
    cases n <;> simp only [relUpon] at h <;> simp only [Oper.upon]
    case value u => exact hK _ _ h.1 h.2.1 h.2.2
    case skip => exact hK _ _ h.1 h.2.1 h.2.2
    case enter f args => exact Calls.mono h fun e w'' ⟨v, he, h1, h2, h3⟩ => by subst he; exact hK _ _ h1 h2 h3
  | halt x w' => simp only [relUpon] at h

theorem relB_spec {N : Nat} {lss : List Looks} (h : relB ops N lss = true) {i : Nat} {o : Oper} (ho : ops[i]? = some o) : ∃ ls, lss[i]? = some ls ∧ opB ops N i o ls = true := by
  have h1 := List.all_eq_true.1 h i (List.mem_range.2 (Array.getElem?_eq_some_iff.1 ho).1)
  simp only [ho] at h1
  cases hl : lss[i]? with
  | none => simp [hl] at h1
  | some ls => simp only [hl] at h1; exact ⟨ls, rfl, h1⟩

theorem rel_ready_some {N : Nat} {lss : List Looks} (hB : relB ops N lss = true) {listed : Array Bool} (hl : listed.size = ops.size) : ∀ (i : Nat), i < ops.size → listed.getD i true = false → ∃ j, j ∈ Region.ready .any ops listed := by
  intro i
  induction i using Nat.strongRecOn with
  | _ i ih =>
    intro hi hu
    obtain ⟨o, ho⟩ : ∃ o, ops[i]? = some o := ⟨_, Array.getElem?_eq_getElem hi⟩
    obtain ⟨ls, hls, hop⟩ := relB_spec hB ho
    simp only [opB, Bool.and_eq_true] at hop
    by_cases h : ∀ e ∈ o.after, Region.binds .any e = true → listed.getD e.on false = true
    · exact ⟨i, mem_ready.2 ⟨hu, o, ho, h⟩⟩
    · simp only [Classical.not_forall] at h
      obtain ⟨e, he1, hb, h⟩ := h
      have h2 := Array.all_eq_true'.1 hop.2 e he1
      have hlt : e.on < i := by simpa [hb] using h2
      refine ih e.on hlt (by omega) ?_
      have hlt' : e.on < listed.size := by omega
      simp only [Array.getD_eq_getD_getElem?, Array.getElem?_eq_getElem hlt', Option.getD_some] at h ⊢
      simpa using h

theorem rel_any {Q : Exit → Act → World → Prop} {N : Nat} {lss : List Looks} {R : List Rel} (hB : relB ops N lss = true) (hN : a0.tmps.size = N)
    (hob : ∀ i o ls, ops[i]? = some o → lss[i]? = some ls →
      (∀ v w w', (R.getD i fun _ _ => True) v w → St w w' → (R.getD i fun _ _ => True) v w') ∧
      ∀ ρ w, Consts ρ → C w → seen a0 (R.take i).reverse ρ w ls.1 (obOp P C St o ls.2 (R.getD i fun _ _ => True) ρ w))
    (hR : R.length = ops.size) (hrefl : ∀ w, St w w)
    (hfin : ∀ a w, RInv ops C a0 R (Array.replicate ops.size true) a w → Q .normal a w) :
    ∀ (fuel : Nat) (listed : Array Bool) (a : Act) (w : World), listed.count false ≤ fuel → RInv ops C a0 R listed a w → wpAny P .any ops Q fuel listed a w := by
  have hNw : ∀ j t, writesB ops j t = true → t < N := fun j t h => by
    obtain ⟨o, ho, hd⟩ := writesB_spec h
    obtain ⟨ls, _, hop⟩ := relB_spec hB ho
    simp only [opB, hd, Bool.and_eq_true, decide_eq_true_eq] at hop
    exact hop.1.1.1.1.2.1
  have huniq : ∀ i j t, writesB ops i t = true → writesB ops j t = true → j = i := fun i j t h h' => by
    obtain ⟨o, ho, hd⟩ := writesB_spec h
    obtain ⟨ls, _, hop⟩ := relB_spec hB ho
    simp only [opB, hd, Bool.and_eq_true] at hop
    obtain ⟨oj, hoj, _⟩ := writesB_spec h'
    have := List.all_eq_true.1 hop.1.1.1.1.2.2 j (List.mem_range.2 (Array.getElem?_eq_some_iff.1 hoj).1)
    simpa [h'] using this
  have done : ∀ (listed : Array Bool) (a : Act) (w : World), RInv ops C a0 R listed a w → Region.ready .any ops listed = [] → Q .normal a w := by
    intro listed a w inv hr
    have hall : ∀ i, i < ops.size → listed.getD i true = true := fun i hi => by
      cases hx : listed.getD i true with
      | true => rfl
      | false =>
        obtain ⟨j, hj⟩ := rel_ready_some hB inv.lsize i hi hx
        rw [hr] at hj
        cases hj
    have e : listed = Array.replicate ops.size true := by
      apply Array.ext
      · simp [inv.lsize]
      · intro i h1 h2
        have := hall i (by rw [← inv.lsize]; exact h1)
        simp only [Array.getD_eq_getD_getElem?, Array.getElem?_eq_getElem h1, Option.getD_some] at this
        simpa using this
    rw [e] at inv
    exact hfin a w inv
  intro fuel
  induction fuel with
  | zero =>
    intro listed a w hc inv
    have hr : Region.ready .any ops listed = [] := by
      refine List.eq_nil_iff_forall_not_mem.2 fun i hi => ?_
      obtain ⟨hu, o, ho, _⟩ := mem_ready.1 hi
      have hlt : i < listed.size := by rw [inv.lsize]; exact (Array.getElem?_eq_some_iff.1 ho).1
      have hf : false ∈ listed := by
        simp only [Array.getD_eq_getD_getElem?, Array.getElem?_eq_getElem hlt, Option.getD_some] at hu
        exact Array.mem_of_getElem hu
      have := Array.count_pos_iff.2 hf
      omega
    exact ⟨hr, done listed a w inv hr⟩
  | succ fuel ih =>
    intro listed a w hc inv
    refine ⟨done listed a w inv, fun i hi => ?_⟩
    obtain ⟨hu, o, ho, hpre⟩ := mem_ready.1 hi
    have hi' : i < ops.size := (Array.getElem?_eq_some_iff.1 ho).1
    have hlt : i < listed.size := by rw [inv.lsize]; exact hi'
    have huf : listed[i] = false := by simpa [Array.getD_eq_getD_getElem?, Array.getElem?_eq_getElem hlt] using hu
    have huF : listed.getD i false = false := by simp [Array.getD_eq_getD_getElem?, Array.getElem?_eq_getElem hlt, huf]
    obtain ⟨ls, hls, hop⟩ := relB_spec hB ho
    simp only [opB, Bool.and_eq_true] at hop
    obtain ⟨⟨⟨⟨⟨_, hdst⟩, hopd⟩, hlook⟩, hguard⟩, hafter⟩ := hop
    obtain ⟨hst, hobi⟩ := hob i o ls ho hls
    have hobi := hobi a.eval w ⟨fun _ => rfl, fun _ => rfl, fun _ => rfl⟩ inv.cls
    have hwait : ∀ j, waitsB ops i j = true → listed.getD j false = true := fun j hw => by
      obtain ⟨o', ho', e, he, hb, rfl⟩ := waitsB_spec hw
      obtain rfl : o' = o := Option.some.inj (ho'.symm.trans ho)
      exact hpre e he hb
    have hG : obOp P C St o ls.2 (R.getD i fun _ _ => True) a.eval w := by
      refine seen_elim hobi (fun t d hm => ?_) (fun t hm => ?_)
      · have := List.all_eq_true.1 hlook _ hm
        simp only [lookB, Bool.and_eq_true, decide_eq_true_eq] at this
        obtain ⟨⟨hd, hw⟩, hwt⟩ := this
        obtain ⟨oj, hoj, hdj⟩ := writesB_spec hw
        have hf := inv.facts (i - 1 - d) oj t hoj hdj (hwait _ hwt)
        have hRi : i ≤ R.length := by omega
        have e : (R.take i).reverse.getD d (fun _ _ => True) = R.getD (i - 1 - d) (fun _ _ => True) := by
          simp only [List.getD_eq_getElem?_getD]
          rw [List.getElem?_reverse (by simp; omega)]
          simp only [List.length_take, Nat.min_eq_left hRi]
          rw [List.getElem?_take_of_lt (by omega)]
        rw [e]
        exact hf
      · have := List.all_eq_true.1 hlook _ hm
        simp only [lookB] at this
        refine inv.olds t fun j hw => ?_
        obtain ⟨oj, hoj, _⟩ := writesB_spec hw
        have := List.all_eq_true.1 this j (List.mem_range.2 (Array.getElem?_eq_some_iff.1 hoj).1)
        simp only [hw, Bool.not_true, Bool.false_or, Bool.or_eq_true, beq_iff_eq] at this
        rcases this with rfl | hwt
        · exact huF
        · cases hx : listed.getD j false with
          | false => rfl
          | true =>
            have := inv.down j i hx hwt
            rw [huF] at this
            cases this
    have hnext : ∀ v w', C w' → St w w' → (R.getD i fun _ _ => True) v w' → RInv ops C a0 R (listed.setIfInBounds i true) (a.put o.dst v) w' := by
      intro v w' hC hSt hT
      have hg : ∀ j, j ≠ i → (listed.setIfInBounds i true).getD j false = listed.getD j false := fun j hj => getD_set_ne false (Ne.symm hj)
      have hgi : (listed.setIfInBounds i true).getD i false = true := by simp [hlt]
      refine ⟨hC, ?_, ?_, by simp [inv.lsize], fun j oj t hoj hdj hl => ?_, fun t ht => ?_, fun j k hj hw => ?_⟩
      · rw [← inv.defers]; cases o.dst <;> rfl
      · rw [← inv.size]; cases o.dst <;> simp [Act.put]
      · by_cases hji : j = i
        · subst hji
          obtain rfl : oj = o := Option.some.inj (hoj.symm.trans ho)
          rw [hdj, eval_put_eq (by rw [inv.size, hN]; exact hNw _ _ (writesB_of hoj hdj))]
          exact hT
        · rw [hg j hji] at hl
          have e : (a.put o.dst v).eval (.tmp t) = a.eval (.tmp t) := by
            cases hd : o.dst with
            | none => rfl
            | some d =>
              refine eval_put_ne fun he => ?_
              subst he
              exact hji (huniq _ _ _ (writesB_of ho hd) (writesB_of hoj hdj))
          rw [e]
          obtain ⟨lsj, hlsj, _⟩ := relB_spec hB hoj
          exact (hob j oj lsj hoj hlsj).1 _ _ _ (inv.facts j oj t hoj hdj hl) hSt
      · have hne : ¬ writesB ops i t = true := fun hw => by
          have := ht i hw
          rw [hgi] at this
          cases this
        have e : (a.put o.dst v).eval (.tmp t) = a.eval (.tmp t) := by
          cases hd : o.dst with
          | none => rfl
          | some d =>
            refine eval_put_ne fun he => ?_
            subst he
            exact hne (writesB_of ho hd)
        rw [e]
        refine inv.olds t fun j hw => ?_
        by_cases hji : j = i
        · subst hji; exact absurd hw hne
        · rw [← hg j hji]; exact ht j hw
      · by_cases hki : k = i
        · subst hki; exact hgi
        · rw [hg k hki]
          by_cases hji : j = i
          · subst hji; exact hwait k hw
          · rw [hg j hji] at hj; exact inv.down j k hj hw
    have hcount : (listed.setIfInBounds i true).count false ≤ fuel := by
      have hf : false ∈ listed := Array.mem_of_getElem huf
      have h1 := Array.count_pos_iff.2 hf
      rw [Array.setIfInBounds_def, dif_pos hlt, Array.count_set]
      simp only [huf, beq_self_eq_true, if_true]
      have : (true == false) = false := rfl
      simp only [this, Bool.false_eq_true, if_false]
      omega
    have hwant := wanted_of_guard (a := a) (ls := ls) (by rw [inv.size]; exact hN) hNw hguard
    unfold wpOp
    simp only [ho]
    obtain ⟨l1, gd⟩ := ls
    cases gd with
    | none =>
      dsimp only at hwant
      rw [if_pos hwant]
      exact .inl (wp_of_relUpon hG fun v w' h1 h2 h3 => ih _ _ _ hcount (hnext v w' h1 h2 h3))
    | some p =>
      obtain ⟨t, b⟩ := p
      dsimp only at hwant
      dsimp only [obOp] at hG
      by_cases hv : a.eval (.tmp t) = .bool b
      · rw [if_pos (hwant.2 hv)]
        exact .inl (wp_of_relUpon (hG.1 hv) fun v w' h1 h2 h3 => ih _ _ _ hcount (hnext v w' h1 h2 h3))
      · rw [if_neg (fun h => hv (hwant.1 h))]
        exact ih _ _ _ hcount (hnext undef w inv.cls (hrefl w) (hG.2 hv))

def writeAll : List Oper → (Nat → Value) → Array Value → Array Value
  | [], _, t => t
  | o :: os, vs, t => match o.dst with
    | some d => writeAll os vs (t.setIfInBounds d (vs d))
    | none => writeAll os vs t
theorem writeAll_none {vs : Nat → Value} {s : Nat} : ∀ (os : List Oper) (t : Array Value), (∀ o ∈ os, o.dst ≠ some s) → (writeAll os vs t)[s]? = t[s]?
  | [], _, _ => rfl
  | o :: os, t, h => by
    have ih := fun t => writeAll_none (vs := vs) os t fun o' ho' => h o' (List.mem_cons_of_mem _ ho')
    unfold writeAll
    cases hd : o.dst with
    | none => exact ih t
    | some d =>
      dsimp only
      rw [ih]
      exact Array.getElem?_setIfInBounds_ne fun e => h o (List.mem_cons_self ..) (by rw [hd, e])
theorem writeAll_some {vs : Nat → Value} {s : Nat} : ∀ (os : List Oper) (t : Array Value), s < t.size → (t[s]? = some (vs s) ∨ ∃ o ∈ os, o.dst = some s) → (writeAll os vs t)[s]? = some (vs s)
  | [], _, _, h => by
    rcases h with h | ⟨o, ho, _⟩
    · exact h
    · cases ho
  | o :: os, t, hs, h => by
    unfold writeAll
    cases hd : o.dst with
    | none =>
      refine writeAll_some os t hs (h.imp id ?_)
      rintro ⟨o', ho', he⟩
      rcases List.mem_cons.1 ho' with rfl | ho'
      · rw [hd] at he; cases he
      · exact ⟨o', ho', he⟩
    | some d =>
      dsimp only
      refine writeAll_some os _ (by simpa using hs) ?_
      by_cases hds : d = s
      · subst hds
        exact .inl (by simp [hs])
      · rw [Array.getElem?_setIfInBounds_ne hds]
        refine h.imp id ?_
        rintro ⟨o', ho', he⟩
        rcases List.mem_cons.1 ho' with rfl | ho'
        · rw [hd] at he; exact absurd (Option.some.inj he) hds
        · exact ⟨o', ho', he⟩
theorem writeAll_size {vs : Nat → Value} : ∀ (os : List Oper) (t : Array Value), (writeAll os vs t).size = t.size
  | [], _ => rfl
  | o :: os, t => by
    unfold writeAll
    cases o.dst with
    | none => exact writeAll_size os t
    | some d => dsimp only; rw [writeAll_size os]; simp

def endSeen (K : List Rel) (vs : Nat → Value) (w : World) : List (Nat × Nat) → Prop → Prop
  | [], G => G
  | (d, t) :: r, G => (K.getD d fun _ _ => True) (vs t) w → endSeen K vs w r G
theorem endSeen_intro {K : List Rel} {vs : Nat → Value} {w : World} {G : Prop} : ∀ {es : List (Nat × Nat)}, endSeen K vs w es G → (∀ d t, (d, t) ∈ es → (K.getD d fun _ _ => True) (vs t) w) → G
  | [], h, _ => h
  | (d, t) :: _, h, h1 => endSeen_intro (h (h1 d t (List.mem_cons_self ..))) (fun d' t' hm => h1 d' t' (List.mem_cons_of_mem _ hm))
end

/-- **A region that draws its order, told by relations.** lss: what each operation looks at; es: what is wanted at the end: (counted backwards from the last operation, its temporary). -/
theorem wp_region_rel {P : Program} {id : Nat} {Q : Exit → Act → World → Prop} {a : Act} {w : World} {l : List Oper} (C : World → Prop) (St : World → World → Prop) (lss : List Looks) (es : List (Nat × Nat)) (hm : P.follows .mixedOrders = true)
    (hB : (relB l.toArray a.tmps.size lss && es.all fun e => decide (e.1 < l.length) && writesB l.toArray (l.length - 1 - e.1) e.2) = true) (hrefl : ∀ w, St w w) (hC : C w.drew)
    (h : obFrom P C St a (fun K => ∀ (vs : Nat → Value) (w' : World), C w' → endSeen K vs w' es (Q .normal ⟨writeAll l vs a.tmps, a.defers⟩ w')) l lss []) : (Code.region id l.toArray true).wp P Q a w := by
  simp only [Bool.and_eq_true] at hB
  obtain ⟨R, hl, hf, hall⟩ := ob_all l lss [] h
  simp only [List.append_nil] at hf hall
  refine wp_region_any hm (rel_any (N := a.tmps.size) (lss := lss) (R := R) hB.1 rfl (fun i o ls ho hls => hall i o ls (by simpa using ho) hls) (by simpa using hl) hrefl ?_ _ _ _ _ ?_ ?_)
  · intro a' w' inv
    have hk := hf (fun t => a'.eval (.tmp t)) w' inv.cls
    have hq := endSeen_intro hk fun d t hm => by
      have := List.all_eq_true.1 hB.2 _ hm
      simp only [Bool.and_eq_true, decide_eq_true_eq] at this
      obtain ⟨o, ho, hd⟩ := writesB_spec this.2
      have hf := inv.facts _ o t ho hd (by
        have := (Array.getElem?_eq_some_iff.1 ho).1
        simp only [Array.getD_eq_getD_getElem?]
        rw [Array.getElem?_replicate, if_pos this]
        rfl)
      have e : R.reverse.getD d (fun _ _ => True) = R.getD (l.length - 1 - d) (fun _ _ => True) := by
        simp only [List.getD_eq_getElem?_getD]
        rw [List.getElem?_reverse (by omega), hl]
      rw [e]
      exact hf
    have e : (⟨writeAll l (fun t => a'.eval (.tmp t)) a.tmps, a.defers⟩ : Act) = a' := by
      obtain ⟨t', d'⟩ := a'
      have h1 := inv.size
      have h2 := inv.defers
      dsimp only at h1 h2 ⊢
      congr 1
      · apply Array.ext
        · rw [writeAll_size, h1]
        · intro s hs1 hs2
          apply Option.some.inj
          rw [← Array.getElem?_eq_getElem hs1, ← Array.getElem?_eq_getElem hs2]
          have hsa : s < a.tmps.size := by rw [← h1]; exact hs2
          have ev : (⟨t', d'⟩ : Act).eval (.tmp s) = t'[s] := by simp [Act.eval, hs2]
          by_cases hx : ∃ o ∈ l, o.dst = some s
          · rw [writeAll_some l _ hsa (.inr hx), ev, Array.getElem?_eq_getElem hs2]
          · rw [writeAll_none l _ (fun o ho he => hx ⟨o, ho, he⟩)]
            have := inv.olds s (fun j hw => by
              obtain ⟨o, ho, hd⟩ := writesB_spec hw
              exact absurd ⟨o, List.mem_of_getElem? (by simpa using ho), hd⟩ hx)
            rw [ev] at this
            rw [Array.getElem?_eq_getElem hs2, this]
            simp [Act.eval, hsa]
      · exact h2.symm
    rw [e] at hq
    exact hq
  · simp
  · refine ⟨hC, rfl, rfl, by simp, fun j o t _ _ hj => ?_, fun _ _ => rfl, fun j k hj => ?_⟩
    · rw [Array.getD_eq_getD_getElem?, Array.getElem?_replicate] at hj
      split at hj <;> simp at hj
    · rw [Array.getD_eq_getD_getElem?, Array.getElem?_replicate] at hj
      split at hj <;> simp at hj

/-! The worlds beyond U; what no later operation breaks: what a call lays anew. -/
def ClB (U W : World) : Prop := Below U.heap.size U W
def StB (W W' : World) : Prop := Below W.heap.size W W'
theorem ClB.step {U W W' : World} (h : ClB U W) (k : StB W W') : ClB U W' := bchain h k
/-- An operation of one value. -/
theorem ob_det {P : Program} {C : World → Prop} {St : World → World → Prop} {a0 : Act} {fin : List Rel → Prop} {o : Oper} {os : List Oper} {ls : Looks} {lss : List Looks} {known : List Rel} {c : Value}
    (h : ∀ ρ w, Consts ρ → C w → seen a0 known ρ w ls.1 (obOp P C St o ls.2 (fun v _ => v = c) ρ w)) (k : obFrom P C St a0 fin os lss ((fun v _ => v = c) :: known)) : obFrom P C St a0 fin (o :: os) (ls :: lss) known :=
  ⟨_, fun _ _ _ h _ => h, h, k⟩
theorem rel_value {P : Program} {U W : World} {c : Value} {r : Result Next} (h : r = .ok (.value c) W) (hC : ClB U W) : relUpon P (ClB U) StB W (fun v _ => v = c) r := by
  rw [h]; exact ⟨hC, Below.refl _ _, rfl⟩
theorem rel_call {P : Program} {U W : World} {c : Value} {r : Result Next} {f : FuncId} {args : Array Value} (h : r = .ok (.enter f args) W) (hC : ClB U W) (hc : Calls P f args W fun e w' => e = .returned c ∧ Below W.heap.size W w') : relUpon P (ClB U) StB W (fun v _ => v = c) r := by
  rw [h]; exact hc.mono fun e w' ⟨he, hb⟩ => ⟨c, he, hC.step hb, hb, rfl⟩
theorem rel_enter {P : Program} {U W : World} {T : Rel} {r : Result Next} {f : FuncId} {args : Array Value} (h : r = .ok (.enter f args) W) (hc : Calls P f args W fun e w' => ∃ v, e = .returned v ∧ ClB U w' ∧ StB W w' ∧ T v w') : relUpon P (ClB U) StB W T r := by
  rw [h]; exact hc
/-- The law at the worlds beyond the one at hand. -/
theorem wp_region_rel_below {P : Program} {id : Nat} {Q : Exit → Act → World → Prop} {a : Act} {w : World} {l : List Oper} (lss : List Looks) (es : List (Nat × Nat)) (hm : P.follows .mixedOrders = true)
    (hB : (relB l.toArray a.tmps.size lss && es.all fun e => decide (e.1 < l.length) && writesB l.toArray (l.length - 1 - e.1) e.2) = true)
    (h : obFrom P (ClB w) StB a (fun K => ∀ (vs : Nat → Value) (w' : World), ClB w w' → endSeen K vs w' es (Q .normal ⟨writeAll l vs a.tmps, a.defers⟩ w')) l lss []) : (Code.region id l.toArray true).wp P Q a w :=
  wp_region_rel (ClB w) StB lss es hm hB (fun _ => Below.refl _ _) ((Below.refl _ _).drew) h

end Go.Proofs.YtmnkgnoljllnnaaDoor

/-
  XRel inside a round of a loop over a function.
-/
namespace Go.Proofs.YtmnkgnoljllnnaaDoor
open Go.RowKit

/-- No bound at all: outside of rounds, or in one. -/
def Wide (F : Fence) : Prop := F = Fence.wide ∨ ∃ l, F = Fence.wide.inRound l
theorem Wide.fn {F : Fence} (h : Wide F) (f : FuncId) : F.fn f := by
  rcases h with rfl | ⟨l, rfl⟩ <;> trivial
theorem Wide.depth {F : Fence} (h : Wide F) : F.depth = none := by
  rcases h with rfl | ⟨l, rfl⟩ <;> rfl
theorem Wide.calls {F : Fence} {n : Nat} {P : Program} {f : FuncId} {args : Array Value} {w : World} {R : Ending → World → Prop} (h : Wide F) (hc : Calls P f args w R) : CallsIn F n P f args w R := by
  rcases h with rfl | ⟨l, rfl⟩
  · exact callsIn_wide.2 hc
  · exact (callsIn_wide.2 hc).inRound l
def noDefer (o : Oper) : Bool := match o.op with
  | .defer _ => false
  | _ => true
section
variable {P : Program} {C : World → Prop} {St : World → World → Prop} {a0 : Act} {ops : Array Oper}

theorem wpIn_of_relUpon {F : Fence} {n : Nat} (hF : Wide F) {Q : Exit → Act → World → Prop} {o : Oper} {a : Act} {w : World} {T : Rel} {K : Act → World → Prop} (hnd : noDefer o = true) (h : relUpon P C St w T ((execOp a.eval o).run P w))
    (hK : ∀ v w', C w' → St w w' → T v w' → K (a.put o.dst v) w') : o.wpIn F n P a w K Q := by
  unfold Oper.wpIn
  refine ⟨fun _ _ => hF.fn _, ?_⟩
  rw [Oper.semAt_eq _ _ _ (fun c hc => by unfold noDefer at hnd; rw [hc] at hnd; cases hnd)]
  generalize (execOp a.eval o).run P w = r at *
  cases r with
  | ok x w' =>
    cases x <;> simp only [relUpon] at h <;> simp only [Oper.uponIn]
    case value u => exact hK _ _ h.1 h.2.1 h.2.2
    case skip => exact hK _ _ h.1 h.2.1 h.2.2
    case enter f args => exact ⟨fun h' => (by rw [hF.depth] at h'; cases h'), CallsIn.mono (hF.calls h) fun e w'' ⟨v, he, h1, h2, h3⟩ => by subst he; exact hK _ _ h1 h2 h3⟩
  | halt x w' => simp only [relUpon] at h

theorem rel_anyIn {F : Fence} {n : Nat} (hF : Wide F) (hnd : ∀ (i : Nat) (o : Oper), ops[i]? = some o → noDefer o = true) {Q : Exit → Act → World → Prop} {N : Nat} {lss : List Looks} {R : List Rel} (hB : relB ops N lss = true) (hN : a0.tmps.size = N)
    (hob : ∀ i o ls, ops[i]? = some o → lss[i]? = some ls →
      (∀ v w w', (R.getD i fun _ _ => True) v w → St w w' → (R.getD i fun _ _ => True) v w') ∧
      ∀ ρ w, Consts ρ → C w → seen a0 (R.take i).reverse ρ w ls.1 (obOp P C St o ls.2 (R.getD i fun _ _ => True) ρ w))
    (hR : R.length = ops.size) (hrefl : ∀ w, St w w)
    (hfin : ∀ a w, RInv ops C a0 R (Array.replicate ops.size true) a w → Q .normal a w) :
    ∀ (fuel : Nat) (listed : Array Bool) (a : Act) (w : World), listed.count false ≤ fuel → RInv ops C a0 R listed a w → wpAnyIn F n P .any ops Q fuel listed a w := by
  have hNw : ∀ j t, writesB ops j t = true → t < N := fun j t h => by
    obtain ⟨o, ho, hd⟩ := writesB_spec h
    obtain ⟨ls, _, hop⟩ := relB_spec hB ho
    simp only [opB, hd, Bool.and_eq_true, decide_eq_true_eq] at hop
    exact hop.1.1.1.1.2.1
  have huniq : ∀ i j t, writesB ops i t = true → writesB ops j t = true → j = i := fun i j t h h' => by
    obtain ⟨o, ho, hd⟩ := writesB_spec h
    obtain ⟨ls, _, hop⟩ := relB_spec hB ho
    simp only [opB, hd, Bool.and_eq_true] at hop
    obtain ⟨oj, hoj, _⟩ := writesB_spec h'
    have := List.all_eq_true.1 hop.1.1.1.1.2.2 j (List.mem_range.2 (Array.getElem?_eq_some_iff.1 hoj).1)
    simpa [h'] using this
  have done : ∀ (listed : Array Bool) (a : Act) (w : World), RInv ops C a0 R listed a w → Region.ready .any ops listed = [] → Q .normal a w := by
    intro listed a w inv hr
    have hall : ∀ i, i < ops.size → listed.getD i true = true := fun i hi => by
      cases hx : listed.getD i true with
      | true => rfl
      | false =>
        obtain ⟨j, hj⟩ := rel_ready_some hB inv.lsize i hi hx
        rw [hr] at hj
        cases hj
    have e : listed = Array.replicate ops.size true := by
      apply Array.ext
      · simp [inv.lsize]
      · intro i h1 h2
        have := hall i (by rw [← inv.lsize]; exact h1)
        simp only [Array.getD_eq_getD_getElem?, Array.getElem?_eq_getElem h1, Option.getD_some] at this
        simpa using this
    rw [e] at inv
    exact hfin a w inv
  intro fuel
  induction fuel with
  | zero =>
    intro listed a w hc inv
    have hr : Region.ready .any ops listed = [] := by
      refine List.eq_nil_iff_forall_not_mem.2 fun i hi => ?_
      obtain ⟨hu, o, ho, _⟩ := mem_ready.1 hi
      have hlt : i < listed.size := by rw [inv.lsize]; exact (Array.getElem?_eq_some_iff.1 ho).1
      have hf : false ∈ listed := by
        simp only [Array.getD_eq_getD_getElem?, Array.getElem?_eq_getElem hlt, Option.getD_some] at hu
        exact Array.mem_of_getElem hu
      have := Array.count_pos_iff.2 hf
      omega
    exact ⟨hr, done listed a w inv hr⟩
  | succ fuel ih =>
    intro listed a w hc inv
    refine ⟨done listed a w inv, fun i hi => ?_⟩
    obtain ⟨hu, o, ho, hpre⟩ := mem_ready.1 hi
    have hi' : i < ops.size := (Array.getElem?_eq_some_iff.1 ho).1
    have hlt : i < listed.size := by rw [inv.lsize]; exact hi'
    have huf : listed[i] = false := by simpa [Array.getD_eq_getD_getElem?, Array.getElem?_eq_getElem hlt] using hu
    have huF : listed.getD i false = false := by simp [Array.getD_eq_getD_getElem?, Array.getElem?_eq_getElem hlt, huf]
    obtain ⟨ls, hls, hop⟩ := relB_spec hB ho
    simp only [opB, Bool.and_eq_true] at hop
    obtain ⟨⟨⟨⟨⟨_, hdst⟩, hopd⟩, hlook⟩, hguard⟩, hafter⟩ := hop
    obtain ⟨hst, hobi⟩ := hob i o ls ho hls
    have hobi := hobi a.eval w ⟨fun _ => rfl, fun _ => rfl, fun _ => rfl⟩ inv.cls
    have hwait : ∀ j, waitsB ops i j = true → listed.getD j false = true := fun j hw => by
      obtain ⟨o', ho', e, he, hb, rfl⟩ := waitsB_spec hw
      obtain rfl : o' = o := Option.some.inj (ho'.symm.trans ho)
      exact hpre e he hb
    have hG : obOp P C St o ls.2 (R.getD i fun _ _ => True) a.eval w := by
      refine seen_elim hobi (fun t d hm => ?_) (fun t hm => ?_)
      · have := List.all_eq_true.1 hlook _ hm
        simp only [lookB, Bool.and_eq_true, decide_eq_true_eq] at this
        obtain ⟨⟨hd, hw⟩, hwt⟩ := this
        obtain ⟨oj, hoj, hdj⟩ := writesB_spec hw
        have hf := inv.facts (i - 1 - d) oj t hoj hdj (hwait _ hwt)
        have hRi : i ≤ R.length := by omega
        have e : (R.take i).reverse.getD d (fun _ _ => True) = R.getD (i - 1 - d) (fun _ _ => True) := by
          simp only [List.getD_eq_getElem?_getD]
          rw [List.getElem?_reverse (by simp; omega)]
          simp only [List.length_take, Nat.min_eq_left hRi]
          rw [List.getElem?_take_of_lt (by omega)]
        rw [e]
        exact hf
      · have := List.all_eq_true.1 hlook _ hm
        simp only [lookB] at this
        refine inv.olds t fun j hw => ?_
        obtain ⟨oj, hoj, _⟩ := writesB_spec hw
        have := List.all_eq_true.1 this j (List.mem_range.2 (Array.getElem?_eq_some_iff.1 hoj).1)
        simp only [hw, Bool.not_true, Bool.false_or, Bool.or_eq_true, beq_iff_eq] at this
        rcases this with rfl | hwt
        · exact huF
        · cases hx : listed.getD j false with
          | false => rfl
          | true =>
            have := inv.down j i hx hwt
            rw [huF] at this
            cases this
    have hnext : ∀ v w', C w' → St w w' → (R.getD i fun _ _ => True) v w' → RInv ops C a0 R (listed.setIfInBounds i true) (a.put o.dst v) w' := by
      intro v w' hC hSt hT
      have hg : ∀ j, j ≠ i → (listed.setIfInBounds i true).getD j false = listed.getD j false := fun j hj => getD_set_ne false (Ne.symm hj)
      have hgi : (listed.setIfInBounds i true).getD i false = true := by simp [hlt]
      refine ⟨hC, ?_, ?_, by simp [inv.lsize], fun j oj t hoj hdj hl => ?_, fun t ht => ?_, fun j k hj hw => ?_⟩
      · rw [← inv.defers]; cases o.dst <;> rfl
      · rw [← inv.size]; cases o.dst <;> simp [Act.put]
      · by_cases hji : j = i
        · subst hji
          obtain rfl : oj = o := Option.some.inj (hoj.symm.trans ho)
          rw [hdj, eval_put_eq (by rw [inv.size, hN]; exact hNw _ _ (writesB_of hoj hdj))]
          exact hT
        · rw [hg j hji] at hl
          have e : (a.put o.dst v).eval (.tmp t) = a.eval (.tmp t) := by
            cases hd : o.dst with
            | none => rfl
            | some d =>
              refine eval_put_ne fun he => ?_
              subst he
              exact hji (huniq _ _ _ (writesB_of ho hd) (writesB_of hoj hdj))
          rw [e]
          obtain ⟨lsj, hlsj, _⟩ := relB_spec hB hoj
          exact (hob j oj lsj hoj hlsj).1 _ _ _ (inv.facts j oj t hoj hdj hl) hSt
      · have hne : ¬ writesB ops i t = true := fun hw => by
          have := ht i hw
          rw [hgi] at this
          cases this
        have e : (a.put o.dst v).eval (.tmp t) = a.eval (.tmp t) := by
          cases hd : o.dst with
          | none => rfl
          | some d =>
            refine eval_put_ne fun he => ?_
            subst he
            exact hne (writesB_of ho hd)
        rw [e]
        refine inv.olds t fun j hw => ?_
        by_cases hji : j = i
        · subst hji; exact absurd hw hne
        · rw [← hg j hji]; exact ht j hw
      · by_cases hki : k = i
        · subst hki; exact hgi
        · rw [hg k hki]
          by_cases hji : j = i
          · subst hji; exact hwait k hw
          · rw [hg j hji] at hj; exact inv.down j k hj hw
    have hcount : (listed.setIfInBounds i true).count false ≤ fuel := by
      have hf : false ∈ listed := Array.mem_of_getElem huf
      have h1 := Array.count_pos_iff.2 hf
      rw [Array.setIfInBounds_def, dif_pos hlt, Array.count_set]
      simp only [huf, beq_self_eq_true, if_true]
      have : (true == false) = false := rfl
      simp only [this, Bool.false_eq_true, if_false]
      omega
    have hwant := wanted_of_guard (a := a) (ls := ls) (by rw [inv.size]; exact hN) hNw hguard
    unfold wpOpIn
    simp only [ho]
    obtain ⟨l1, gd⟩ := ls
    cases gd with
    | none =>
      dsimp only at hwant
      rw [if_pos hwant]
      exact (wpIn_of_relUpon hF (hnd i o ho) hG fun v w' h1 h2 h3 => ih _ _ _ hcount (hnext v w' h1 h2 h3))
    | some p =>
      obtain ⟨t, b⟩ := p
      dsimp only at hwant
      dsimp only [obOp] at hG
      by_cases hv : a.eval (.tmp t) = .bool b
      · rw [if_pos (hwant.2 hv)]
        exact (wpIn_of_relUpon hF (hnd i o ho) (hG.1 hv) fun v w' h1 h2 h3 => ih _ _ _ hcount (hnext v w' h1 h2 h3))
      · rw [if_neg (fun h => hv (hwant.1 h))]
        exact ⟨fun _ _ => hF.fn _, ih _ _ _ hcount (hnext undef w inv.cls (hrefl w) (hG.2 hv))⟩
end

/-- **A region that draws its order, told by relations.** lss: what each operation looks at; es: what is wanted at the end: (counted backwards from the last operation, its temporary). -/
theorem wpAnyIn_rel {F : Fence} {n : Nat} (hF : Wide F) {P : Program} {Q : Exit → Act → World → Prop} {a : Act} {w : World} {l : List Oper} (C : World → Prop) (St : World → World → Prop) (lss : List Looks) (es : List (Nat × Nat)) 
    (hB : (relB l.toArray a.tmps.size lss && es.all fun e => decide (e.1 < l.length) && writesB l.toArray (l.length - 1 - e.1) e.2) = true) (hrefl : ∀ w, St w w) (hC : C w.drew) (hnd : (l.all noDefer) = true)
    (h : obFrom P C St a (fun K => ∀ (vs : Nat → Value) (w' : World), C w' → endSeen K vs w' es (Q .normal ⟨writeAll l vs a.tmps, a.defers⟩ w')) l lss []) : wpAnyIn F n P .any l.toArray Q l.toArray.size (Array.replicate l.toArray.size false) a w.drew := by
  simp only [Bool.and_eq_true] at hB
  obtain ⟨R, hl, hf, hall⟩ := ob_all l lss [] h
  simp only [List.append_nil] at hf hall
  refine (rel_anyIn hF (fun i o ho => List.all_eq_true.1 hnd o (List.mem_of_getElem? (by simpa using ho))) (N := a.tmps.size) (lss := lss) (R := R) hB.1 rfl (fun i o ls ho hls => hall i o ls (by simpa using ho) hls) (by simpa using hl) hrefl ?_ _ _ _ _ ?_ ?_)
  · intro a' w' inv
    have hk := hf (fun t => a'.eval (.tmp t)) w' inv.cls
    have hq := endSeen_intro hk fun d t hm => by
      have := List.all_eq_true.1 hB.2 _ hm
      simp only [Bool.and_eq_true, decide_eq_true_eq] at this
      obtain ⟨o, ho, hd⟩ := writesB_spec this.2
      have hf := inv.facts _ o t ho hd (by
        have := (Array.getElem?_eq_some_iff.1 ho).1
        simp only [Array.getD_eq_getD_getElem?]
        rw [Array.getElem?_replicate, if_pos this]
        rfl)
      have e : R.reverse.getD d (fun _ _ => True) = R.getD (l.length - 1 - d) (fun _ _ => True) := by
        simp only [List.getD_eq_getElem?_getD]
        rw [List.getElem?_reverse (by omega), hl]
      rw [e]
      exact hf
    have e : (⟨writeAll l (fun t => a'.eval (.tmp t)) a.tmps, a.defers⟩ : Act) = a' := by
      obtain ⟨t', d'⟩ := a'
      have h1 := inv.size
      have h2 := inv.defers
      dsimp only at h1 h2 ⊢
      congr 1
      · apply Array.ext
        · rw [writeAll_size, h1]
        · intro s hs1 hs2
          apply Option.some.inj
          rw [← Array.getElem?_eq_getElem hs1, ← Array.getElem?_eq_getElem hs2]
          have hsa : s < a.tmps.size := by rw [← h1]; exact hs2
          have ev : (⟨t', d'⟩ : Act).eval (.tmp s) = t'[s] := by simp [Act.eval, hs2]
          by_cases hx : ∃ o ∈ l, o.dst = some s
          · rw [writeAll_some l _ hsa (.inr hx), ev, Array.getElem?_eq_getElem hs2]
          · rw [writeAll_none l _ (fun o ho he => hx ⟨o, ho, he⟩)]
            have := inv.olds s (fun j hw => by
              obtain ⟨o, ho, hd⟩ := writesB_spec hw
              exact absurd ⟨o, List.mem_of_getElem? (by simpa using ho), hd⟩ hx)
            rw [ev] at this
            rw [Array.getElem?_eq_getElem hs2, this]
            simp [Act.eval, hsa]
      · exact h2.symm
    rw [e] at hq
    exact hq
  · simp
  · refine ⟨hC, rfl, rfl, by simp, fun j o t _ _ hj => ?_, fun _ _ => rfl, fun j k hj => ?_⟩
    · rw [Array.getD_eq_getD_getElem?, Array.getElem?_replicate] at hj
      split at hj <;> simp at hj
    · rw [Array.getD_eq_getD_getElem?, Array.getElem?_replicate] at hj
      split at hj <;> simp at hj



/-- A drawn region inside a fence. -/
theorem wpIn_region_rel_below {F : Fence} {n : Nat} (hF : Wide F) {P : Program} {id : Nat} {Q : Exit → Act → World → Prop} {a : Act} {w : World} {l : List Oper} (lss : List Looks) (es : List (Nat × Nat)) (hm : P.follows .mixedOrders = true) (hnd : (l.all noDefer) = true)
    (hB : (relB l.toArray a.tmps.size lss && es.all fun e => decide (e.1 < l.length) && writesB l.toArray (l.length - 1 - e.1) e.2) = true)
    (h : obFrom P (ClB w) StB a (fun K => ∀ (vs : Nat → Value) (w' : World), ClB w w' → endSeen K vs w' es (Q .normal ⟨writeAll l vs a.tmps, a.defers⟩ w')) l lss []) : (Code.region id l.toArray true).wpIn F n P Q a w :=
  wpIn_region_any hm (wpAnyIn_rel hF (ClB w) StB lss es hB (fun _ => Below.refl _ _) ((Below.refl _ _).drew) hnd h)
end Go.Proofs.YtmnkgnoljllnnaaDoor

/-
  A drawn region inside a fence: its first operations in whatever order, told by relations; then the others, which wait for them, in the order of the text.
-/
namespace Go.Proofs.YtmnkgnoljllnnaaDoor
open Go.RowKit

section
variable {F : Fence} {N : Nat} {P : Program} {ops : Array Oper} {Q : Exit → Act → World → Prop} {md : Region.Mode}
theorem wpAnyIn_more : ∀ (f : Nat) (listed : Array Bool) (a : Act) (w : World), wpAnyIn F N P md ops Q f listed a w → wpAnyIn F N P md ops Q (f + 1) listed a w
  | 0, _, _, _, h => ⟨fun _ => h.2, fun i hi => by rw [h.1] at hi; cases hi⟩
  | f + 1, _, _, _, h => ⟨h.1, fun i hi => wpOpIn_mono (fun a' w' h' => wpAnyIn_more f _ a' w' h') (h.2 i hi)⟩
theorem wpAnyIn_pad (f : Nat) (listed : Array Bool) (a : Act) (w : World) (h : wpAnyIn F N P md ops Q f listed a w) : ∀ d : Nat, wpAnyIn F N P md ops Q (d + f) listed a w
  | 0 => by rw [Nat.zero_add]; exact h
  | d + 1 => by rw [show d + 1 + f = d + f + 1 by omega]; exact wpAnyIn_more _ _ _ _ (wpAnyIn_pad f listed a w h d)

/-- The post of the head: at its end the tail goes. -/
def headPostIn (F : Fence) (N : Nat) (P : Program) (ops : Array Oper) (tl : List Oper) (Q : Exit → Act → World → Prop) : Exit → Act → World → Prop
  | .normal, a, w => wpListIn F N P ops Q tl a w
  | e, a, w => Q e a w
theorem oper_wpIn_post {o : Oper} {a : Act} {w : World} {K : Act → World → Prop} {tl : List Oper} (h : o.wpIn F N P a w K (headPostIn F N P ops tl Q)) : o.wpIn F N P a w K Q := by
  unfold Oper.wpIn at *
  refine ⟨h.1, ?_⟩
  have h := h.2
  generalize (o.semAt F.round a.eval).run P w = r at *
  cases r with
  | ok n w' =>
    cases n <;> simp only [Oper.uponIn] at h ⊢ <;>
      first
        | exact h
        | exact ⟨h.1, CallsIn.mono h.2 (fun e w'' he => by cases e <;> exact he)⟩
        | exact ⟨h.1, RoundIn.mono h.2 (fun e w'' he => by cases e <;> exact he)⟩
  | halt x w' => cases x <;> simp only [Oper.uponIn] at h ⊢ <;> exact h
theorem wpAnyIn_of_seq {Q' : Exit → Act → World → Prop} : ∀ (l : List Oper) (k : Nat) (listed : Array Bool) (a : Act) (w : World), (∀ j, l[j]? = ops[k + j]?) →
    Region.seqB md ops l.length k listed = true → wpListIn F N P ops Q' l a w → wpAnyIn F N P md ops Q' l.length listed a w
  | [], _, _, _, _, _, hB, h => ⟨by simpa [Region.seqB] using hB, h⟩
  | o :: l, k, listed, a, w, hl, hB, h => by
    have h0 : ops[k]? = some o := by simpa using (hl 0).symm
    simp only [List.length_cons, Region.seqB, Bool.and_eq_true, decide_eq_true_eq] at hB
    refine ⟨fun h1 => (by rw [hB.1] at h1; cases h1), fun i hi => ?_⟩
    rw [hB.1] at hi
    have hik : i = k := by simpa using hi
    subst hik
    have hw : wpOpIn F N P ops Q' i (wpListIn F N P ops Q' l) a w := by unfold wpOpIn; simp only [h0]; exact h
    exact wpOpIn_mono (fun a' w' h' => wpAnyIn_of_seq l (i + 1) _ a' w' (fun j => by have := hl (j + 1); simpa [Nat.add_assoc, Nat.add_comm 1 j] using this) hB.2 h') hw
theorem wpOpIn_head {hd tl : List Oper} {i : Nat} {K K' : Act → World → Prop} {a : Act} {w : World} (hB : headB md (hd ++ tl).toArray hd.length = true) (hi : i < hd.length) (hK : ∀ a w, K a w → K' a w)
    (h : wpOpIn F N P hd.toArray (headPostIn F N P (hd ++ tl).toArray tl Q) i K a w) : wpOpIn F N P (hd ++ tl).toArray Q i K' a w := by
  obtain ⟨o, ho, _, hg⟩ := headB_spec hB hi
  have ho' : hd.toArray[i]? = some o := by
    simpa [List.getElem?_append_left hi] using ho
  refine wpOpIn_mono hK ?_
  unfold wpOpIn at *
  simp only [ho] at ⊢
  simp only [ho'] at h
  have hw : Region.wanted o (yielded (hd ++ tl).toArray a.tmps) = Region.wanted o (yielded hd.toArray a.tmps) := by
    unfold Region.wanted
    cases hgo : o.guard with
    | none => rfl
    | some p =>
      obtain ⟨j, b⟩ := p
      have hj := hg j b hgo
      have e : (hd ++ tl).toArray[j]? = hd.toArray[j]? := by simp [List.getElem?_append_left hj]
      simp only [yielded, e]
  rw [hw]
  split
  · rename_i hw
    simp only [hw, if_true] at h
    exact oper_wpIn_post h
  · rename_i hw
    simp only [hw] at h
    exact h

theorem wpAnyIn_split {hd tl : List Oper} (hB : headB md (hd ++ tl).toArray hd.length = true) (hs : Region.sinkB md (hd ++ tl).toArray hd.length = true) (hc : Region.chainB md (hd ++ tl).toArray hd.length = true) (ht : 0 < tl.length)
    (hq : Region.seqB md (hd ++ tl).toArray tl.length hd.length (List.replicate hd.length true ++ List.replicate tl.length false).toArray = true) :
    ∀ (f : Nat) (lh listed : Array Bool) (a : Act) (w : World), HeadInv md (hd ++ tl).toArray hd.length listed → (∀ j, j < hd.length → lh[j]? = listed[j]?) →
      wpAnyIn F N P md hd.toArray (headPostIn F N P (hd ++ tl).toArray tl Q) f lh a w → wpAnyIn F N P md (hd ++ tl).toArray Q (f + tl.length) listed a w := by
  have hsz : (hd ++ tl).toArray.size = hd.length + tl.length := by simp
  have done : ∀ (f : Nat) (lh listed : Array Bool) (a : Act) (w : World), HeadInv md (hd ++ tl).toArray hd.length listed → (∀ j, j < hd.length → lh[j]? = listed[j]?) → Region.ready md hd.toArray lh = [] →
      wpListIn F N P (hd ++ tl).toArray Q tl a w → wpAnyIn F N P md (hd ++ tl).toArray Q (f + tl.length) listed a w := by
    intro f lh listed a w inv hr h0 h
    have hall : ∀ i, i < hd.length → listed.getD i true = true := fun i hi => by
      cases hx : listed.getD i true with
      | true => rfl
      | false =>
        obtain ⟨j, hj, hjr⟩ := ready_some hB (by rw [inv.size, hsz]; omega) i hi hx
        have := (ready_head hB hj hr).1 hjr
        rw [h0] at this
        cases this
    have hl : listed = (List.replicate hd.length true ++ List.replicate tl.length false).toArray := by
      apply Array.ext
      · simp [inv.size]
      · intro i h1 h2
        rcases Nat.lt_or_ge i hd.length with hi | hi
        · have := hall i hi
          rw [Array.getD_eq_getD_getElem?, Array.getElem?_eq_getElem h1] at this
          simpa [List.getElem_append, hi] using this
        · have hi' : i < hd.length + tl.length := by rw [inv.size, hsz] at h1; exact h1
          have := inv.tail i hi (by rw [hsz]; exact hi')
          rw [Array.getD_eq_getD_getElem?, Array.getElem?_eq_getElem h1] at this
          simpa [List.getElem_append, Nat.not_lt.2 hi] using this
    refine wpAnyIn_pad _ _ _ _ ?_ f
    refine wpAnyIn_of_seq tl hd.length listed a w (fun j => by rw [List.getElem?_toArray, List.getElem?_append_right (Nat.le_add_right _ _), Nat.add_sub_cancel_left]) ?_ h
    rw [hl]
    exact hq
  intro f
  induction f with
  | zero => exact fun lh listed a w inv hr h => done 0 lh listed a w inv hr h.1 h.2
  | succ f ih =>
    intro lh listed a w inv hr h
    by_cases h0 : Region.ready md hd.toArray lh = []
    · exact done (f + 1) lh listed a w inv hr h0 (h.1 h0)
    · obtain ⟨i0, hi0⟩ := List.exists_mem_of_ne_nil _ h0
      have hlt0 : i0 < hd.length := by
        obtain ⟨_, o, ho, _⟩ := mem_ready.1 hi0
        simpa using (Array.getElem?_eq_some_iff.1 ho).1
      have hu0 : listed.getD i0 true = false := (getD_of (hr i0 hlt0)).symm.trans (mem_ready.1 hi0).1
      rw [show f + 1 + tl.length = f + tl.length + 1 by omega]
      refine ⟨fun h1 => ?_, fun i hi => ?_⟩
      · have := (ready_head hB hlt0 hr).2 hi0
        rw [h1] at this
        cases this
      · have hin : i < hd.length := by
          rcases Nat.lt_or_ge i hd.length with h | h
          · exact h
          · exact absurd hi (tail_waits hs hc (by rw [hsz]; omega) inv _ i0 rfl hlt0 hu0 i h)
        refine wpOpIn_head hB hin (fun a' w' h' => ih _ _ a' w' (inv.set hi hin) (fun j hj => ?_) h') (h.2 i ((ready_head hB hin hr).1 hi))
        have hs1 : lh.size = lh.size := rfl
        by_cases hij : i = j
        · subst hij
          have e := hr i hin
          have hlt : i < listed.size := by rw [inv.size, hsz]; omega
          have hlt' : i < lh.size := by
            rcases Nat.lt_or_ge i lh.size with h | h
            · exact h
            · rw [Array.getElem?_eq_none h, Array.getElem?_eq_getElem hlt] at e
              cases e
          simp [hlt, hlt']
        · rw [Array.getElem?_setIfInBounds_ne hij, Array.getElem?_setIfInBounds_ne hij]
          exact hr j hj

/-- A drawn region inside a fence: its first m operations in whatever order, told by relations; then the others, which wait for them, in the order of the text. -/
theorem wpIn_region_rel_head (hF : Wide F) {id : Nat} {a : Act} {w : World} {l : List Oper} (m : Nat) (lss : List Looks) (es : List (Nat × Nat)) (hm : P.follows .mixedOrders = true) (hnd : ((l.take m).all noDefer) = true) (hn : decide (m < l.length) = true)
    (hB : (relB (l.take m).toArray a.tmps.size lss && es.all fun e => decide (e.1 < (l.take m).length) && writesB (l.take m).toArray ((l.take m).length - 1 - e.1) e.2) = true)
    (hH : headB .any (l.take m ++ l.drop m).toArray (l.take m).length = true) (hs : Region.sinkB .any (l.take m ++ l.drop m).toArray (l.take m).length = true) (hc : Region.chainB .any (l.take m ++ l.drop m).toArray (l.take m).length = true)
    (hq : Region.seqB .any (l.take m ++ l.drop m).toArray (l.drop m).length (l.take m).length (List.replicate (l.take m).length true ++ List.replicate (l.drop m).length false).toArray = true)
    (h : obFrom P (ClB w) StB a (fun K => ∀ (vs : Nat → Value) (w' : World), ClB w w' → endSeen K vs w' es (wpListIn F N P l.toArray Q (l.drop m) ⟨writeAll (l.take m) vs a.tmps, a.defers⟩ w')) (l.take m) lss []) : (Code.region id l.toArray true).wpIn F N P Q a w := by
  have hn' : m < l.length := by simpa using hn
  have e : l.take m ++ l.drop m = l := List.take_append_drop m l
  refine wpIn_region_any hm ?_
  have H := wpAnyIn_split (F := F) (N := N) (P := P) (Q := Q) hH hs hc (by simp; omega) hq (l.take m).toArray.size (Array.replicate (l.take m).toArray.size false) (Array.replicate l.toArray.size false) a w.drew
    ⟨by rw [e]; simp, fun j oj _ hl => (by rw [getD_replicate_false] at hl; cases hl), fun t _ ht => getD_in (by rw [e] at ht; simpa using ht) (getD_replicate_false _ _)⟩
    (fun j hj => by
      have hj2 : j < (l.take m).toArray.size := by simpa using hj
      have hj3 : j < l.toArray.size := by simp at hj2 ⊢; omega
      rw [Array.getElem?_replicate, Array.getElem?_replicate, if_pos hj2, if_pos hj3])
    (by rw [e]; exact wpAnyIn_rel hF (Q := headPostIn F N P l.toArray (l.drop m) Q) (ClB w) StB lss es hB (fun _ => Below.refl _ _) ((Below.refl _ _).drew) hnd h)
  have hl : (l.take m).toArray.size + (l.drop m).length = l.toArray.size := by simp; omega
  rw [hl, e] at H
  exact H
end
end Go.Proofs.YtmnkgnoljllnnaaDoor

/-
  join.ports: the iterator over a section's ports and what lies beyond.
-/
namespace Go.Proofs.YtmnkgnoljllnnaaDoor
open Go.RowKit Go.Shelf
attribute [local go_sem] Oper.semAt_some

theorem JEnd.kept {W W' : World} (h : JEnd W) (k : Kept W W') : JEnd W' := ⟨k.cell _ _ _ h.c0, k.cell _ _ _ h.c1⟩
theorem BoxL.kept {W W' : World} {g : Nat} {L : Lay} {p : Where} (h : BoxL W g L p) (hb : Kept W W') : BoxL W' g L p := ⟨Nat.lt_of_lt_of_le h.1 hb.size, fun i v hv => hb.cell _ _ _ (h.2 i v hv)⟩
/-- The ports of a section, of the first i. -/
def pj (L : Lay) (s : Int) : Nat → List Nat
  | 0 => []
  | i + 1 => pj L s i ++ (if hasB L s (i : Nat) then [i] else [])
theorem pj_pre {L : Lay} {s : Int} {i j : Nat} (h : i ≤ j) : pj L s i <+: pj L s j := by
  induction h with
  | refl => exact List.prefix_rfl
  | step _ ih => exact ih.trans (List.prefix_append _ _)
def pjV (L : Lay) (s : Int) (i : Nat) : Array Value := #[.agg #[.int .i64 s, .int .i64 (i : Nat)], .agg #[.int .i64 (beyL L s i).s, .int .i64 (beyL L s i).p]]

theorem jports_fn (L : Lay) (P : Where) (s : Int) (w : World) :
    Calls Tryd.prog 77 #[L.val P, .int .i64 s] w fun e w' => e = .returned (.func (.func 81) #[] #[.pointer (some ⟨w.heap.size + 1, 0, none⟩), .pointer (some ⟨w.heap.size, 0, none⟩)]) ∧ w' = (w.alloc (.cells (L.cells P).toArray 29)).alloc (.cells #[.int .i64 s] 3) := by
  unfold Lay.val Lay.cells
  go_enter Tryd.func77, Tryd.ntmps77
  go_wp2
  go_ret
  exact ⟨rfl, rfl⟩

set_option maxRecDepth 100000 in
set_option maxHeartbeats 16000000 in
theorem jports1_in (l Bs Bl n₀ : Nat) (s : Int) (L : Lay) (P : Where) (J Jx : List Nat → World → Prop) (W : World) (hJ : AbidesFrom W.heap.size J)
    (hY : ∀ pre x W1, J pre W1 → pre.length < (pj L s 4).length → YieldAt Fence.wide 3 Tryd.prog l (pjV L s x) W1 fun e W' =>
      (e = .returned (.bool true) ∧ J (pre ++ [x]) W' ∧ KeepsE NoB NoT n₀ W1 W') ∨ (e = .returned (.bool false) ∧ Jx (pre ++ [x]) W'))
    (hL : LayAt W P L) (hB : BoxL W Bl L P) (hK : Kinds W) (hE : JEnd W) (cs : W.cell? ⟨Bs, 0, none⟩ = some (.int .i64 s)) (hJ0 : J [] W) :
    CallsIn Fence.wide 4 Tryd.prog 81 #[.func (.yield l) #[] #[], .pointer (some ⟨Bs, 0, none⟩), .pointer (some ⟨Bl, 0, none⟩)] W fun e W' => (∃ v, e = .returned v) ∧
      ((∃ ys, ys = pj L s 4 ∧ J ys W') ∨ (∃ pre, (pre <+: pj L s 4) ∧ Jx pre W')) := by
  have hJg : ∀ s (X Y : World), W.heap.size ≤ X.heap.size → J s X → Below X.heap.size X Y → J s Y := fun s X Y _ hx hb => hJ s X Y none hx ⟨hb.os, hb.tape, hb.output, hb.size, fun k' hk' _ => hb.block k' hk'⟩ (fun r e => by cases e)
  have HALL := Lib.hid (⟨hL, hB, hK, hE, cs⟩ : _ ∧ _ ∧ _ ∧ _ ∧ _)
  have HJ := Lib.hid hJg
  have HY := Lib.hid hY
  clear hL hB hK hE cs hJg hJ hY
  refine callsIn_of_wp Tryd.func81 rfl trivial ?_ rfl
  simp only [Tryd.ntmps81, List.size_toArray, List.length_cons, List.length_nil, Nat.reduceAdd, Nat.reduceSub, Array.replicate_succ, Array.replicate_zero, List.push_toArray, List.append_toArray, List.nil_append, List.cons_append]
  gi_wp2_with fail
  gi_loopw [6] (fun c wr => ∃ i : Nat, i ≤ 4 ∧ c = .int .i64 i ∧ Hid (J (pj L s i) wr) ∧ Hid (Kept W wr)) (fun c _ => 4 - (intOf c).toNat)
  case atStart => exact ⟨0, by omega, rfl, Lib.hid hJ0, Lib.hid (Kept.refl _)⟩
  case round =>
    obtain ⟨i, hi, rfl, HJi, HKi⟩ := hrel
    clear hJ0
    by_cases hlt : i < 4
    · have cs := HKi.out.cell _ _ _ HALL.out.2.2.2.2
      have hlt4 : (i : Int) < 4 := by omega
      obtain ⟨U, hU⟩ : ∃ U, U = wr.alloc (.cells #[.int .i64 s, .int .i64 (i : Nat)] 37) := ⟨_, rfl⟩
      have hUB : Below wr.heap.size wr U := by rw [hU]; exact bself
      have y0 : ∀ V, ClB U V → V.cell? ⟨wr.heap.size, 0, none⟩ = some (.int .i64 s) := fun V h => (h.cell (p := ⟨wr.heap.size, 0, none⟩) (by rw [hU]; simp)).trans (by rw [hU]; simp [go_sem])
      have y1 : ∀ V, ClB U V → V.cell? ⟨wr.heap.size, 1, none⟩ = some (.int .i64 (i : Nat)) := fun V h => (h.cell (p := ⟨wr.heap.size, 1, none⟩) (by rw [hU]; simp)).trans (by rw [hU]; simp [go_sem])
      have kU : Kept W U := HKi.out.trans (.of_below hUB)
      have HKU := Lib.hid kU
      have HBX := Lib.hid (HALL.out.2.1.kept kU)
      have hh : ∀ V, ClB U V → _ := fun V h => hasJ_any L P s (i : Nat) V ((HALL.out.1.kept kU).below h) ((HALL.out.2.2.1.kept kU).below h)
      have hz : ∀ V, ClB U V → _ := fun V h => beyJ_any L P s (i : Nat) V ((HALL.out.1.kept kU).below h) ((HALL.out.2.2.1.kept kU).below h) ((HALL.out.2.2.2.1.kept kU).below h)
      have HJU := Lib.hid (HJ.out _ _ _ HKi.out.size HJi.out hUB)
      have pe : pj L s (i + 1) = pj L s i ++ (if hasB L s (i : Nat) then [i] else []) := rfl
      have pv : pjV L s i = #[.agg #[.int .i64 s, .int .i64 (i : Nat)], .agg #[.int .i64 (beyL L s i).s, .int .i64 (beyL L s i).p]] := rfl
      have pp := pj_pre (L := L) (s := s) (show i + 1 ≤ 4 by omega)
      generalize beyL L s (i : Nat) = z at hz pv
      obtain ⟨zs, zp⟩ := z
      dsimp only at hz pv
      cases hb : hasB L s (i : Nat) with
      | true =>
        rw [hb] at hh pe
        rw [if_pos rfl] at pe
        rw [pe] at pp
        have HH := Lib.hid hh
        have HZ := Lib.hid hz
        have HPP := Lib.hid (⟨pe, pv, pp⟩ : _ ∧ _ ∧ _)
        clear hh hz hb kU pe pv pp
        refine wpIn_seq_k fun K1 hK1 => ?_
        have HK1 := Lib.hid hK1
        clear hK1
        gi_wp2
        refine HK1.out _ _ ?_
        clear HK1
        refine wpIn_seq_k fun K2 hK2 => ?_
        have HK2 := Lib.hid hK2
        clear hK2
        gi_wp2
        refine HK2.out _ _ ?_
        clear HK2
        refine wpIn_seq_k fun K3 hK3 => ?_
        have HK3 := Lib.hid hK3
        clear hK3
        refine wpIn_block ?_
        refine wpIn_seq_k fun K4 hK4 => ?_
        have HK4 := Lib.hid hK4
        clear hK4
        gi_wp2
        refine HK4.out _ _ ?_
        clear HK4
        refine wpIn_seq_k fun K5 hK5 => ?_
        have HK5 := Lib.hid hK5
        clear hK5
        gi_wp2
        refine HK5.out _ _ ?_
        clear HK5
        refine wpIn_seq_k fun K6 hK6 => ?_
        have HK6 := Lib.hid hK6
        clear hK6
        rw [← hU]
        clear cs
        refine wpIn_region_rel_head (.inl rfl) 9 [([(2, none)], none), ([(5, none)], none), ([(12, some 1), (13, some 0)], none), ([(14, some 0)], none), ([(0, none), (15, some 0)], some (15, true)), ([(5, none), (15, some 1)], some (15, true)), ([(2, none), (15, some 2)], some (15, true)), ([(5, none), (15, some 3)], some (15, true)), ([(18, some 1), (19, some 0), (15, some 4)], some (15, true))] [(0, 20), (3, 17), (4, 16), (5, 15)] (by kernel_rfl) (by kernel_rfl) (by kernel_rfl) (by kernel_rfl) (by kernel_rfl) (by kernel_rfl) (by kernel_rfl) (by kernel_rfl) ?_
        simp only [List.take_succ_cons, List.take_zero, List.drop_succ_cons, List.drop_zero]
        refine ob_det (c := L.val P) ?_ ?_
        · intro ρ W hk hC
          simp only [seen, obOp]
          rintro h2
          replace h2 : ρ (.tmp 2) = .pointer (some ⟨Bl, 0, none⟩) := h2.trans rfl
          exact rel_value (runLoad h2 (HBX.out.below hC)) hC
        refine ob_det (c := .agg #[.int .i64 s, .int .i64 (i : Nat)]) ?_ ?_
        · intro ρ W hk hC
          simp only [seen, obOp]
          rintro h5
          replace h5 : ρ (.tmp 5) = .pointer (some ⟨wr.heap.size, 0, none⟩) := h5.trans rfl
          exact rel_value (by simp [go_sem, h5, y0 W hC, y1 W hC]) hC
        refine ob_det (c := .bool true) ?_ ?_
        · intro ρ W hk hC
          simp only [seen, obOp, List.getD_cons_zero, List.getD_cons_succ]
          rintro h12 h13
          exact rel_call (f := 78) (args := #[L.val P, .agg #[.int .i64 s, .int .i64 (i : Nat)]]) (by simp [go_sem, h12, h13, hk.func]) hC (HH.out W hC)
        refine ob_det (c := .bool true) ?_ ?_
        · intro ρ W hk hC
          simp only [seen, obOp, List.getD_cons_zero]
          rintro h14
          exact rel_value (by simp [go_sem, h14]) hC
        refine ob_det (c := .func (.yield l) #[] #[]) ?_ ?_
        · intro ρ W hk hC
          simp only [seen, obOp, List.getD_cons_zero]
          rintro h0 h15
          replace h0 : ρ (.tmp 0) = .func (.yield l) #[] #[] := h0.trans rfl
          refine ⟨fun _ => ?_, fun hn => absurd h15 hn⟩
          exact rel_value (by simp [go_sem, h0]) hC
        refine ob_det (c := .agg #[.int .i64 s, .int .i64 (i : Nat)]) ?_ ?_
        · intro ρ W hk hC
          simp only [seen, obOp, List.getD_cons_zero, List.getD_cons_succ]
          rintro h5 h15
          replace h5 : ρ (.tmp 5) = .pointer (some ⟨wr.heap.size, 0, none⟩) := h5.trans rfl
          refine ⟨fun _ => ?_, fun hn => absurd h15 hn⟩
          exact rel_value (by simp [go_sem, h5, y0 W hC, y1 W hC]) hC
        refine ob_det (c := L.val P) ?_ ?_
        · intro ρ W hk hC
          simp only [seen, obOp, List.getD_cons_zero, List.getD_cons_succ]
          rintro h2 h15
          replace h2 : ρ (.tmp 2) = .pointer (some ⟨Bl, 0, none⟩) := h2.trans rfl
          refine ⟨fun _ => ?_, fun hn => absurd h15 hn⟩
          exact rel_value (runLoad h2 (HBX.out.below hC)) hC
        refine ob_det (c := .agg #[.int .i64 s, .int .i64 (i : Nat)]) ?_ ?_
        · intro ρ W hk hC
          simp only [seen, obOp, List.getD_cons_zero, List.getD_cons_succ]
          rintro h5 h15
          replace h5 : ρ (.tmp 5) = .pointer (some ⟨wr.heap.size, 0, none⟩) := h5.trans rfl
          refine ⟨fun _ => ?_, fun hn => absurd h15 hn⟩
          exact rel_value (by simp [go_sem, h5, y0 W hC, y1 W hC]) hC
        refine ob_det (c := .agg #[.int .i64 zs, .int .i64 zp]) ?_ ?_
        · intro ρ W hk hC
          simp only [seen, obOp, List.getD_cons_zero, List.getD_cons_succ]
          rintro h18 h19 h15
          refine ⟨fun _ => ?_, fun hn => absurd h15 hn⟩
          exact rel_call (f := 65) (args := #[L.val P, .agg #[.int .i64 s, .int .i64 (i : Nat)]]) (by simp [go_sem, h18, h19, hk.func]) hC (HZ.out W hC)
        intro vs w5 hC5
        simp only [endSeen, List.getD_cons_zero, List.getD_cons_succ]
        intro h20 h17 h16 h15
        simp only [writeAll, List.setIfInBounds_toArray, List.set_cons_zero, List.set_cons_succ, h20, h17, h16, h15]
        have J5 := HJ.out _ _ _ HKU.out.size HJU.out hC5
        obtain ⟨fn, tmps, assign, body, hyy, hR⟩ := HY.out _ i w5 J5 (lt_of_pre HPP.out.2.2)
        rw [HPP.out.2.1] at hyy
        gi_wp2
        refine hR.mono ?_
        rintro e W3 (⟨rfl, hJ3, hk3⟩ | ⟨rfl, hJx3⟩)
        · have H3 := Lib.hid (⟨hJ3, (HKU.out.trans (.of_below hC5)).trans (.of_keeps hk3)⟩ : _ ∧ _)
          clear hJ3 hk3
          gi_wp2
          refine HK6.out _ _ ?_
          gi_wp2
          refine HK3.out _ _ ?_
          gi_wp2
          go_roundw
          case rel => exact ⟨i + 1, by omega, by go_num, Lib.hid (by rw [HPP.out.1]; exact H3.out.1), Lib.hid H3.out.2⟩
          case measure => simp [intOf]; omega
        · gi_wp2
          refine HK6.out _ _ ?_
          gi_wp2
          refine bodyPost_ret (results_none rfl _ _ _) rfl ?_
          exact ⟨⟨_, rfl⟩, .inr ⟨_, HPP.out.2.2, hJx3⟩⟩
      | false =>
        rw [hb] at hh pe
        rw [if_neg (by simp), List.append_nil] at pe
        have HH := Lib.hid hh
        have HPP := Lib.hid pe
        clear hh hz hb kU pe pv pp
        refine wpIn_seq_k fun K1 hK1 => ?_
        have HK1 := Lib.hid hK1
        clear hK1
        gi_wp2
        refine HK1.out _ _ ?_
        clear HK1
        refine wpIn_seq_k fun K2 hK2 => ?_
        have HK2 := Lib.hid hK2
        clear hK2
        gi_wp2
        refine HK2.out _ _ ?_
        clear HK2
        refine wpIn_seq_k fun K3 hK3 => ?_
        have HK3 := Lib.hid hK3
        clear hK3
        refine wpIn_block ?_
        refine wpIn_seq_k fun K4 hK4 => ?_
        have HK4 := Lib.hid hK4
        clear hK4
        gi_wp2
        refine HK4.out _ _ ?_
        clear HK4
        refine wpIn_seq_k fun K5 hK5 => ?_
        have HK5 := Lib.hid hK5
        clear hK5
        gi_wp2
        refine HK5.out _ _ ?_
        clear HK5
        refine wpIn_seq_k fun K6 hK6 => ?_
        have HK6 := Lib.hid hK6
        clear hK6
        rw [← hU]
        clear cs
        refine wpIn_region_rel_below (.inl rfl) [([(2, none)], none), ([(5, none)], none), ([(12, some 1), (13, some 0)], none), ([(14, some 0)], none), ([(0, none), (15, some 0)], some (15, true)), ([(5, none), (15, some 1)], some (15, true)), ([(2, none), (15, some 2)], some (15, true)), ([(5, none), (15, some 3)], some (15, true)), ([(18, some 1), (19, some 0), (15, some 4)], some (15, true)), ([(16, some 4), (17, some 3), (20, some 0), (15, some 5)], some (15, true)), ([(21, some 0), (15, some 6)], some (15, true)), ([(15, some 7), (22, some 0)], none)] [(0, 23)] (by kernel_rfl) (by kernel_rfl) (by kernel_rfl) ?_
        refine ob_det (c := L.val P) ?_ ?_
        · intro ρ W hk hC
          simp only [seen, obOp]
          rintro h2
          replace h2 : ρ (.tmp 2) = .pointer (some ⟨Bl, 0, none⟩) := h2.trans rfl
          exact rel_value (runLoad h2 (HBX.out.below hC)) hC
        refine ob_det (c := .agg #[.int .i64 s, .int .i64 (i : Nat)]) ?_ ?_
        · intro ρ W hk hC
          simp only [seen, obOp]
          rintro h5
          replace h5 : ρ (.tmp 5) = .pointer (some ⟨wr.heap.size, 0, none⟩) := h5.trans rfl
          exact rel_value (by simp [go_sem, h5, y0 W hC, y1 W hC]) hC
        refine ob_det (c := .bool false) ?_ ?_
        · intro ρ W hk hC
          simp only [seen, obOp, List.getD_cons_zero, List.getD_cons_succ]
          rintro h12 h13
          exact rel_call (f := 78) (args := #[L.val P, .agg #[.int .i64 s, .int .i64 (i : Nat)]]) (by simp [go_sem, h12, h13, hk.func]) hC (HH.out W hC)
        refine ob_det (c := .bool false) ?_ ?_
        · intro ρ W hk hC
          simp only [seen, obOp, List.getD_cons_zero]
          rintro h14
          exact rel_value (by simp [go_sem, h14]) hC
        refine ob_det (c := undef) ?_ ?_
        · intro ρ W hk hC
          simp only [seen, obOp, List.getD_cons_zero]
          rintro h0 h15
          replace h0 : ρ (.tmp 0) = .func (.yield l) #[] #[] := h0.trans rfl
          exact ⟨fun h => absurd (h.symm.trans h15) (by simp), fun _ => by trivial⟩
        refine ob_det (c := undef) ?_ ?_
        · intro ρ W hk hC
          simp only [seen, obOp, List.getD_cons_zero, List.getD_cons_succ]
          rintro h5 h15
          replace h5 : ρ (.tmp 5) = .pointer (some ⟨wr.heap.size, 0, none⟩) := h5.trans rfl
          exact ⟨fun h => absurd (h.symm.trans h15) (by simp), fun _ => by trivial⟩
        refine ob_det (c := undef) ?_ ?_
        · intro ρ W hk hC
          simp only [seen, obOp, List.getD_cons_zero, List.getD_cons_succ]
          rintro h2 h15
          replace h2 : ρ (.tmp 2) = .pointer (some ⟨Bl, 0, none⟩) := h2.trans rfl
          exact ⟨fun h => absurd (h.symm.trans h15) (by simp), fun _ => by trivial⟩
        refine ob_det (c := undef) ?_ ?_
        · intro ρ W hk hC
          simp only [seen, obOp, List.getD_cons_zero, List.getD_cons_succ]
          rintro h5 h15
          replace h5 : ρ (.tmp 5) = .pointer (some ⟨wr.heap.size, 0, none⟩) := h5.trans rfl
          exact ⟨fun h => absurd (h.symm.trans h15) (by simp), fun _ => by trivial⟩
        refine ob_det (c := undef) ?_ ?_
        · intro ρ W hk hC
          simp only [seen, obOp, List.getD_cons_zero, List.getD_cons_succ]
          rintro h18 h19 h15
          exact ⟨fun h => absurd (h.symm.trans h15) (by simp), fun _ => by trivial⟩
        refine ob_det (c := undef) ?_ ?_
        · intro ρ W hk hC
          simp only [seen, obOp, List.getD_cons_zero, List.getD_cons_succ]
          rintro h16 h17 h20 h15
          exact ⟨fun h => absurd (h.symm.trans h15) (by simp), fun _ => by trivial⟩
        refine ob_det (c := undef) ?_ ?_
        · intro ρ W hk hC
          simp only [seen, obOp, List.getD_cons_zero, List.getD_cons_succ]
          rintro h21 h15
          exact ⟨fun h => absurd (h.symm.trans h15) (by simp), fun _ => by trivial⟩
        refine ob_det (c := .bool false) ?_ ?_
        · intro ρ W hk hC
          simp only [seen, obOp, List.getD_cons_zero, List.getD_cons_succ]
          rintro h15 h22
          exact rel_value (by simp [go_sem, h15, h22, hk.const]) hC
        intro vs w5 hC5
        simp only [endSeen, List.getD_cons_zero]
        intro h23
        have J5 := HJ.out _ _ _ HKU.out.size HJU.out hC5
        have H3 := Lib.hid (⟨J5, HKU.out.trans (.of_below hC5)⟩ : _ ∧ _)
        simp only [writeAll, List.setIfInBounds_toArray, List.set_cons_zero, List.set_cons_succ, h23]
        refine HK6.out _ _ ?_
        gi_wp2
        refine HK3.out _ _ ?_
        gi_wp2
        go_roundw
        case rel => exact ⟨i + 1, by omega, by go_num, Lib.hid (by rw [HPP.out]; exact H3.out.1), Lib.hid H3.out.2⟩
        case measure => simp [intOf]; omega
    · obtain rfl : i = 4 := by omega
      gi_wp2
      go_end0
      exact ⟨⟨_, rfl⟩, .inl ⟨_, rfl, HJi.out⟩⟩
end Go.Proofs.YtmnkgnoljllnnaaDoor

/-
  The law of 'for x := range f' in a plain walk, where a round that goes on turns nothing that was there, and one that leaves the loop may write the blocks of A.
-/
namespace Go.Proofs.YtmnkgnoljllnnaaDoor
open Go.RowKit Go.Shelf

/-- How the body of a round may be left. -/
def roundPostX {α : Type} (A : Nat → Prop) (I : List α → Prop) (Ix : Code → List α → World → Prop) (xs : List α) (W : World) : Exit → Act → World → Prop
  | .normal, _, W' => Below W.heap.size W W' ∧ I xs
  | .ret, _, W' => Writes A W W' ∧ Ix .ret xs W'
  | .exit id, _, W' => Writes A W W' ∧ Ix (.exit id) xs W'
  | .goto t, _, W' => Writes A W W' ∧ Ix (.goto t) xs W'
  | .panic _, _, _ => False
  | .outgrown, _, _ => False

/-- **'for x := range f' IN A PLAIN WALK, written where it is left.** -/
theorem wp_range_x {P : Program} {α : Type} {g : Operand} {ps : Array Tmp} {assign body : Code} {Q : Exit → Act → World → Prop} {a : Act} {w : World}
    {gf : Nat} {lb : Array Value} (hg : a.eval g = .func (.func gf) #[] lb) (eg : ∀ args w, (callFunc gf args).run P w = .ok (.enter gf args) w)
    {encs : α → Array Value} {S Sp : List α → Prop} {N : Nat} (A : Nat → Prop) (hA : ∀ b, A b → b < w.heap.size)
    (hseq : SeqStopsK Fence.wide 4 P gf lb encs (KeepsE NoB NoT w.heap.size) S Sp N w) (hps : ∀ x, (encs x).size = ps.size)
    (I : List α → Prop) (Ix : Code → List α → World → Prop) (hIx : ∀ c s W W', Ix c s W → (∀ b, A b → W'.heap[b]? = W.heap[b]?) → Ix c s W') (h0 : I []) (Ax : α → Act → World → Prop) (hAx : ∀ x a' W W', Ax x a' W → SameCells W W' → W.heap.size ≤ W'.heap.size → Ax x a' W')
    (hassign : ∀ (l : Nat) (x : α) (W : World) (K : Act → World → Prop), Below w.heap.size w W → (∀ a' W', Below W.heap.size W W' → Ax x a' W' → K a' W') →
      assign.wpIn (Fence.wide.inRound l) 3 P (Exit.then K (fun _ _ _ => False)) { tmps := (ps.zip (encs x)).foldl (fun t (p, v) => t.setIfInBounds p v) a.tmps, defers := [] } W)
    (hbody : ∀ (l : Nat) (pre : List α) (x : α) (a' : Act) (W : World), Below w.heap.size w W → I pre → Ax x a' W → pre.length < N → body.wpIn (Fence.wide.inRound l) 3 P (roundPostX A I Ix (pre ++ [x]) W) a' W)
    (hdone : ∀ (D : Nat) (xs : List α) (W : World), w.heap.size ≤ D → S xs → Below w.heap.size w W → I xs → W.heap[D]? = some (.deferred (some [])) → Q .normal { a with defers := { target := .collected D, args := #[] } :: a.defers } W)
    (hstop : ∀ (D : Nat) (c : Code) (pre : List α) (W : World), w.heap.size ≤ D → Sp pre → Writes A w W → Ix c pre W → W.heap[D]? = some (.deferred (some [])) → c.wp P Q { a with defers := { target := .collected D, args := #[] } :: a.defers } W) :
    (Code.rangeFunc g ps assign body).wp P Q a w := by
  refine (wpIn_wide (n := 5)).1 (wpIn_rangeFunc_ownH (F := Fence.wide) (n := 5) rfl (by decide) hg trivial eg hseq (fun h k => h.trans k) (fun W l o o' _ hl hc _ => keepE_put W l o o' hl hc) (Below.refl _ _) hps
    (fun s W => I s ∧ Below w.heap.size w W) (fun c s W => Ix c s W ∧ Writes A w W) (ownFrom_below_and I) (fun c => ownFrom_of_blocks hA (hIx c)) ⟨h0, Below.refl _ _⟩
    Ax (fun x a' _ W W' row hs hgr hr => hAx x a' W W' hs (same_of_grown hgr hr) hgr.size) ?_ ?_ ?_ ?_)
  · rintro l pre x W K ⟨hi, hw⟩ hK
    refine hassign l x W K hw (fun a' W' hb hx => hK a' W' ⟨hb.size, fun k o _ hk _ => (hb.block k (Array.getElem?_eq_some_iff.1 hk).1).trans hk⟩ (.of_below hb) ⟨hi, hw.trans (hb.mono hw.size)⟩ hx)
  · rintro l pre x a' W _ _ ⟨hi, hw⟩ hx hlen
    refine wpIn_mono (hbody l pre x a' W hw hi hx hlen) ?_
    have kf : ∀ W', Below W.heap.size W W' → KeepsFrom w.heap.size W W' := fun W' hb => ⟨hb.size, fun k o _ hk _ => (hb.block k (Array.getElem?_eq_some_iff.1 hk).1).trans hk⟩
    have kx : ∀ W', Writes A W W' → KeepsFrom w.heap.size W W' := fun W' h => ⟨h.size, fun k o hB hk _ => (h.block k (Array.getElem?_eq_some_iff.1 hk).1 (fun ha => by have := hA k ha; omega)).trans hk⟩
    have kw : ∀ W', Writes A W W' → Writes A w W' := fun W' h => (Writes.of_below hw).trans h
    rintro e a' W' hq
    cases e with
    | normal => exact ⟨kf W' hq.1, .of_below hq.1, hq.2, hw.trans (hq.1.mono hw.size)⟩
    | ret => exact ⟨kx W' hq.1, hq.2, kw W' hq.1⟩
    | exit id => exact ⟨kx W' hq.1, hq.2, kw W' hq.1⟩
    | goto t => exact ⟨kx W' hq.1, hq.2, kw W' hq.1⟩
    | panic ch => exact hq.elim
    | outgrown => exact hq.elim
  · rintro D xs W hD hS ⟨hi, hw⟩ hK
    exact hdone D xs W hD hS hw hi hK
  · rintro D c pre W hD hS ⟨hi, hw⟩ hK
    exact wpIn_wide.2 (hstop D c pre W hD hS hw hi hK)
end Go.Proofs.YtmnkgnoljllnnaaDoor

/-
  topo.twice, its iterator, topo.first: the first one that is as one ahead of it.
-/
namespace Go.Proofs.YtmnkgnoljllnnaaDoor
open Go.RowKit Go.Shelf
attribute [local go_sem] Oper.semAt_some

/-- Is one ahead of k as k? -/
def dupAt (P : Nat → Nat → Bool) (k : Nat) : Bool := (List.range k).any fun i => P i k
/-- Those of the first n that are as one ahead. -/
def dups (P : Nat → Nat → Bool) : Nat → List Nat
  | 0 => []
  | n + 1 => dups P n ++ (if dupAt P n then [n] else [])
def firstDup (P : Nat → Nat → Bool) (n : Nat) : Int := match (dups P n).head? with
  | some k => (k : Int)
  | none => -1
theorem dups_pre {P : Nat → Nat → Bool} {i j : Nat} (h : i ≤ j) : dups P i <+: dups P j := by
  induction h with
  | refl => exact List.prefix_rfl
  | step _ ih => exact ih.trans (List.prefix_append _ _)
theorem dups_hit {P : Nat → Nat → Bool} {i k : Nat} (hi : i < k) (h : P i k = true) : dups P (k + 1) = dups P k ++ [k] := by
  have : dupAt P k = true := by
    unfold dupAt
    rw [List.any_eq_true]
    exact ⟨i, List.mem_range.2 hi, h⟩
  simp [dups, this]
theorem dups_miss {P : Nat → Nat → Bool} {k : Nat} (h : ∀ i, i < k → P i k = false) : dups P (k + 1) = dups P k := by
  have : dupAt P k = false := by
    unfold dupAt
    rw [List.any_eq_false]
    intro i hi
    rw [h i (List.mem_range.1 hi)]
    simp
  simp [dups, this]
theorem SameCells.keepsE {A : Nat → Prop} {E : TypeId → Prop} {n : Nat} {w X Y : World} (h : SameCells w X) (hA : ∀ b, A b → w.heap.size ≤ b) (hn : w.heap.size ≤ n) (k : KeepsE A E n X Y) : SameCells w Y := fun b o ho hc => by
  have hb : b < w.heap.size := (Array.getElem?_eq_some_iff.1 ho).1
  exact k.same b o (h b o ho hc) hc (fun ha => by have := hA b ha; omega) (fun he => by omega)
theorem SameCells.below {w X Y : World} (h : SameCells w X) (hb : Below X.heap.size X Y) : SameCells w Y := fun b o ho hc =>
  (hb.block b (Array.getElem?_eq_some_iff.1 (h b o ho hc)).1).trans (h b o ho hc)
theorem SameCells.of_below {w X : World} (hb : Below w.heap.size w X) : SameCells w X := fun b _ ho _ => (hb.block b (Array.getElem?_eq_some_iff.1 ho).1).trans ho
theorem firstDup_none {P : Nat → Nat → Bool} {n : Nat} (h : dups P n = []) : firstDup P n = -1 := by
  unfold firstDup
  rw [h]
  rfl
theorem firstDup_some {P : Nat → Nat → Bool} {n k : Nat} (h : [k] <+: dups P n) : firstDup P n = k := by
  obtain ⟨r, hr⟩ := h
  unfold firstDup
  rw [← hr]
  rfl

set_option maxRecDepth 100000 in
set_option maxHeartbeats 16000000 in
theorem twice1_in (l Bn Bs n₀ : Nat) (n : Nat) (P : Nat → Nat → Bool) (g : Nat) (lb : Array Value) (eg : ∀ args w, (callFunc g args).run Tryd.prog w = .ok (.enter g args) w) (A : Nat → Prop) (E : TypeId → Prop) (Z : World → Prop)
    (hZb : ∀ X Y, Z X → Below X.heap.size X Y → Z Y) (hZk : ∀ X Y, Z X → KeepsE A E n₀ X Y → Z Y)
    (hZn : ∀ X, Z X → X.cell? ⟨Bn, 0, none⟩ = some (.int .i64 n)) (hZs : ∀ X, Z X → X.cell? ⟨Bs, 0, none⟩ = some (.func (.func g) #[] lb))
    (hS : ∀ X i k, Z X → i < k → k < n → Calls Tryd.prog g (#[.int .i64 (i : Nat), .int .i64 (k : Nat)] ++ lb) X fun e w' => e = .returned (.bool (P i k)) ∧ Below X.heap.size X w')
    (J Jx : List Nat → World → Prop) (W : World) (hJ : AbidesFrom W.heap.size J) (hn : n ≤ 9223372036854775807)
    (hY : ∀ pre x W1, J pre W1 → pre.length < (dups P n).length → YieldAt Fence.wide 3 Tryd.prog l #[.int .i64 (x : Nat)] W1 fun e W' =>
      (e = .returned (.bool true) ∧ J (pre ++ [x]) W' ∧ KeepsE A E n₀ W1 W') ∨ (e = .returned (.bool false) ∧ Jx (pre ++ [x]) W'))
    (hZ0 : Z W) (hJ0 : J [] W) :
    CallsIn Fence.wide 4 Tryd.prog 79 #[.func (.yield l) #[] #[], .pointer (some ⟨Bn, 0, none⟩), .pointer (some ⟨Bs, 0, none⟩)] W fun e W' => (∃ v, e = .returned v) ∧
      ((∃ ys, ys = dups P n ∧ J ys W') ∨ (∃ pre, (pre <+: dups P n) ∧ Jx pre W')) := by
  have hJg : ∀ s (X Y : World), W.heap.size ≤ X.heap.size → J s X → Below X.heap.size X Y → J s Y := fun s X Y _ hx hb => hJ s X Y none hx ⟨hb.os, hb.tape, hb.output, hb.size, fun k' hk' _ => hb.block k' hk'⟩ (fun r e => by cases e)
  have HJ := Lib.hid hJg
  have HY := Lib.hid hY
  have HZ := Lib.hid (⟨hZb, hZk, hZn, hZs⟩ : _ ∧ _ ∧ _ ∧ _)
  have HS := Lib.hid hS
  have c0 := hZn _ hZ0
  have HZ0 := Lib.hid hZ0
  clear hJg hJ hY hZb hZk hZn hZs hS hZ0
  refine callsIn_of_wp Tryd.func79 rfl trivial ?_ rfl
  simp only [Tryd.ntmps79, List.size_toArray, List.length_cons, List.length_nil, Nat.reduceAdd, Nat.reduceSub, Array.replicate_succ, Array.replicate_zero, List.push_toArray, List.append_toArray, List.nil_append, List.cons_append]
  gi_wp2_with fail
  gi_loopw [7] (fun c wr => ∃ k : Nat, k ≤ n ∧ c = .int .i64 k ∧ Hid (J (dups P k) wr) ∧ Hid (Z wr) ∧ Hid (W.heap.size ≤ wr.heap.size)) (fun c _ => n - (intOf c).toNat)
  case atStart => exact ⟨0, Nat.zero_le _, rfl, Lib.hid hJ0, HZ0, Lib.hid (Nat.le_refl _)⟩
  case round =>
    obtain ⟨k, hk, rfl, HJk, HZk, HWk⟩ := hrel
    clear c0 hJ0 HZ0
    by_cases hlt : k < n
    · gi_wp2_with fail
      gi_loopw [11] (fun c wi => ∃ i : Nat, i ≤ k ∧ c = .int .i64 i ∧ Hid (J (dups P k) wi) ∧ Hid (Z wi) ∧ Hid (W.heap.size ≤ wi.heap.size) ∧ Hid (∀ j, j < i → P j k = false)) (fun c _ => k - (intOf c).toNat)
      case atStart => exact ⟨0, Nat.zero_le _, rfl, HJk, HZk, HWk, Lib.hid (fun j hj => absurd hj (Nat.not_lt_zero _))⟩
      case round =>
        obtain ⟨i, hi, rfl, HJi, HZi, HWi, HN⟩ := hrel
        clear HJk HZk HWk
        by_cases hlti : i < k
        · have cs := HZ.out.2.2.2 _ HZi.out
          have hcall := HS.out _ i k HZi.out hlti hlt
          obtain ⟨q, hq⟩ : ∃ q, q = P i k := ⟨_, rfl⟩
          rw [← hq] at hcall
          have HQ := Lib.hid hq
          have HC := Lib.hid hcall
          clear hq hcall
          gi_wp2_with fail
          refine ⟨trivial, (callsIn_wide.2 HC.out).mono ?_⟩
          rintro e w1 ⟨rfl, b1⟩
          have HJ1 := Lib.hid (HJ.out _ _ _ HWi.out HJi.out b1)
          have HZ1 := Lib.hid (HZ.out.1 _ _ HZi.out b1)
          have HW1 := Lib.hid (Nat.le_trans HWi.out b1.size)
          clear b1 cs HC
          cases q with
          | true =>
            have HD := Lib.hid (dups_hit hlti HQ.out.symm)
            have hpre : dups P k ++ [k] <+: dups P n := HD.out ▸ dups_pre (P := P) (show k + 1 ≤ n by omega)
            obtain ⟨fn, tmps, assign, body, hyy, hR⟩ := HY.out _ k w1 HJ1.out (lt_of_pre hpre)
            have HPR := Lib.hid hpre
            clear hpre
            gi_wp2
            refine hR.mono ?_
            rintro e W3 (⟨rfl, hJ3, hk3⟩ | ⟨rfl, hJx3⟩)
            · have H3 := Lib.hid (⟨hJ3, HZ.out.2.1 _ _ HZ1.out hk3, Nat.le_trans HW1.out hk3.size⟩ : _ ∧ _ ∧ _)
              clear hJ3 hk3
              gi_wp2
              go_roundw
              case rel => exact ⟨k + 1, by omega, by go_num, Lib.hid (by rw [HD.out]; exact H3.out.1), Lib.hid H3.out.2.1, Lib.hid H3.out.2.2⟩
              case measure => simp [intOf]; omega
            · gi_wp2
              refine bodyPost_ret (results_none rfl _ _ _) rfl ?_
              exact ⟨⟨_, rfl⟩, .inr ⟨_, HPR.out, hJx3⟩⟩
          | false =>
            gi_wp2
            go_roundw
            case rel =>
              refine ⟨i + 1, by omega, by go_num, HJ1, HZ1, HW1, Lib.hid (fun j hj => ?_)⟩
              by_cases e : j = i
              · subst e; exact HQ.out.symm
              · exact HN.out j (by omega)
            case measure => simp [intOf]; omega
        · obtain rfl : i = k := by omega
          gi_wp2
          go_roundw
          case rel => exact ⟨i + 1, by omega, by go_num, Lib.hid (by rw [dups_miss HN.out]; exact HJi.out), HZi, HWi⟩
          case measure => simp [intOf]; omega
    · obtain rfl : k = n := by omega
      gi_wp2
      go_end0
      exact ⟨⟨_, rfl⟩, .inl ⟨_, rfl, HJk.out⟩⟩

theorem twice_fn (n : Int) (g : Nat) (lb : Array Value) (w : World) :
    Calls Tryd.prog 57 #[.int .i64 n, .func (.func g) #[] lb] w fun e w' => e = .returned (.func (.func 79) #[] #[.pointer (some ⟨w.heap.size, 0, none⟩), .pointer (some ⟨w.heap.size + 1, 0, none⟩)]) ∧
      Below w.heap.size w w' ∧ w.heap.size + 1 < w'.heap.size ∧ w'.cell? ⟨w.heap.size, 0, none⟩ = some (.int .i64 n) ∧ w'.cell? ⟨w.heap.size + 1, 0, none⟩ = some (.func (.func g) #[] lb) := by
  go_enter Tryd.func57, Tryd.ntmps57
  go_wp2
  go_ret
  exact ⟨rfl, bchain bself bself, by simp, by simp [go_sem], by simp [go_sem]⟩

/-- What first's cell holds: while none has come; when one has. -/
def FirI (b : Nat) (pre : List Nat) (W : World) : Prop := pre = [] ∧ W.cell? ⟨b, 0, none⟩ = some (.int .i64 0) ∧ W.frozen? ⟨b, 0, none⟩ = false
def FirX (b : Nat) (c : Code) (pre : List Nat) (W : World) : Prop := c = .ret ∧ ∃ k : Nat, pre = [k] ∧ W.cell? ⟨b, 0, none⟩ = some (.int .i64 k)
theorem FirI.same {b : Nat} {pre : List Nat} {W W' : World} (h : FirI b pre W) (k : SameCells W W') : FirI b pre W' := ⟨h.1, k.cell h.2.1, (k.frozen h.2.1).trans h.2.2⟩
theorem FirX.same {b : Nat} {c : Code} {pre : List Nat} {W W' : World} (h : FirX b c pre W) (k : SameCells W W') : FirX b c pre W' := by
  obtain ⟨h1, x, h2, h3⟩ := h
  exact ⟨h1, x, h2, k.cell h3⟩

set_option maxRecDepth 100000 in
set_option maxHeartbeats 4000000 in
theorem first_any (Bn Bs n : Nat) (P : Nat → Nat → Bool) (g : Nat) (lb : Array Value) (eg : ∀ args w, (callFunc g args).run Tryd.prog w = .ok (.enter g args) w) (w : World) (hn : n ≤ 9223372036854775807)
    (cn : w.cell? ⟨Bn, 0, none⟩ = some (.int .i64 n)) (cs : w.cell? ⟨Bs, 0, none⟩ = some (.func (.func g) #[] lb))
    (hS : ∀ X i k, Kept w X → i < k → k < n → Calls Tryd.prog g (#[.int .i64 (i : Nat), .int .i64 (k : Nat)] ++ lb) X fun e w' => e = .returned (.bool (P i k)) ∧ Below X.heap.size X w') :
    Calls Tryd.prog 56 #[.func (.func 79) #[] #[.pointer (some ⟨Bn, 0, none⟩), .pointer (some ⟨Bs, 0, none⟩)]] w fun e w' => e = .returned (.int .i64 (firstDup P n)) ∧ Below w.heap.size w w' := by
  refine calls_marked w.heap.size Tryd.func56 rfl ?_
  simp only [Tryd.ntmps56, List.size_toArray, List.length_cons, List.length_nil, Nat.reduceAdd, Nat.reduceSub, Array.replicate_succ, Array.replicate_zero, List.push_toArray, List.append_toArray, List.nil_append, List.cons_append]
  have HS := Lib.hid hS
  have HC := Lib.hid (⟨cn, cs⟩ : _ ∧ _)
  clear hS cn cs
  go_wp2_with fail
  have HB : Below w.heap.size w (w.alloc (.cells #[.int .i64 0] 3)) := bself
  refine wp_range_e (α := Nat) (gf := 79) (lb := #[.pointer (some ⟨Bn, 0, none⟩), .pointer (some ⟨Bs, 0, none⟩)]) (encs := fun x => #[.int .i64 (x : Nat)]) (S := fun ys => ys = dups P n) (Sp := fun pre => pre <+: dups P n) (N := (dups P n).length) rfl (enters_of Tryd.func79 (by kernel_rfl) rfl)
    (fun b => b = w.heap.size) (fun _ => False) (by rintro b rfl; simp) ?seq (fun _ => rfl) (FirI w.heap.size) (FirX w.heap.size) (fun _ _ _ h k _ => h.same k) (fun _ _ _ _ h k _ => h.same k) ⟨rfl, by simp [go_sem], by simp [go_sem]⟩
    (fun x => { tmps := #[.func (.func 79) #[] #[.pointer (some ⟨Bn, 0, none⟩), .pointer (some ⟨Bs, 0, none⟩)], undef, .pointer (some ⟨w.heap.size, 0, none⟩), .int .i64 (x : Nat), .func (.func 79) #[] #[.pointer (some ⟨Bn, 0, none⟩), .pointer (some ⟨Bs, 0, none⟩)], .int .i64 (x : Nat), undef], defers := [] })
    ?assign ?body ?done ?stop
  case seq =>
    intro l J Jx W hW hJ _ hY hJ0
    have hsz : w.heap.size ≤ W.heap.size := Nat.le_trans (by simp) hW.size
    exact twice1_in l Bn Bs _ n P g lb eg _ _ (fun Y => w.heap.size ≤ Y.heap.size ∧ SameCells w Y) (fun X Y h hb => ⟨Nat.le_trans h.1 hb.size, h.2.below hb⟩) (fun X Y h k => ⟨Nat.le_trans h.1 k.size, h.2.keepsE (by rintro b rfl; exact Nat.le_refl _) (by simp) k⟩)
      (fun X h => h.2.cell HC.out.1) (fun X h => h.2.cell HC.out.2) (fun X i k h => HS.out X i k (.of_same h.2 h.1)) J Jx W hJ hn hY ⟨hsz, .of_below (bchain HB hW)⟩ hJ0
  case assign =>
    intro l x W K hK
    gi_wp2
    exact hK
  case body =>
    rintro l pre x W hw ⟨rfl, c0, f0⟩ _
    gi_wp2
    exact ⟨WritesE.setCell (A := fun b => b = w.heap.size) (WritesE.refl _ _ _ W) (p := ⟨w.heap.size, 0, none⟩) rfl _, rfl, x, rfl, by simp [go_sem, c0]⟩
  case done =>
    rintro D ys W hD rfl hw ⟨hp, c0, f0⟩ hK
    have hB := hw.below HB (by simp) (by simp) (by rintro b rfl; exact Nat.le_refl _)
    simp at hD
    dsimp only
    go_wp2
    refine ⟨⟨[D], ⟨rfl, by simp, ?held⟩⟩, fun w' hb hk => ⟨_, ?res, rfl, ?bel⟩⟩
    case held =>
      rintro D' h
      simp only [List.mem_cons, List.not_mem_nil, or_false] at h
      subst h
      exact ⟨by omega, (Below.heap_setCell _ _ _ _ (by dsimp only; omega)).trans hK⟩
    case res =>
      have e1 := cells_kept hk (b := w.heap.size) (o := 0) (v := .int .i64 (-1)) (by simp [go_sem, c0])
      rw [firstDup_none hp]
      simp [results, Tryd.results56, go_sem, e1]
    case bel => exact (hB.setCell (p := ⟨w.heap.size, 0, none⟩) (Nat.le_refl _) _).trans hb
  case stop =>
    rintro D c pre W hD hS2 hw ⟨rfl, k, rfl, c0⟩ hK
    have hB := hw.below HB (by simp) (by simp) (by rintro b rfl; exact Nat.le_refl _)
    simp at hD
    dsimp only
    go_wp2
    refine ⟨⟨[D], ⟨rfl, by simp, ?held⟩⟩, fun w' hb hk => ⟨_, ?res, rfl, ?bel⟩⟩
    case held =>
      rintro D' h
      simp only [List.mem_cons, List.not_mem_nil, or_false] at h
      subst h
      exact ⟨by omega, hK⟩
    case res =>
      have e1 := cells_kept hk c0
      rw [firstDup_some hS2]
      simp [results, Tryd.results56, go_sem, e1]
    case bel => exact hB.trans hb
end Go.Proofs.YtmnkgnoljllnnaaDoor

/-
  topo.rules: its closures for signals, exits, flanks.
-/
namespace Go.Proofs.YtmnkgnoljllnnaaDoor
open Go.RowKit Go.Shelf

set_option maxRecDepth 100000 in
theorem eqQ_portI (x0 x1 y0 y1 : Int) (w : World) : (Op.equalIn 10000 37 (.agg #[.int .i64 x0, .int .i64 x1]) (.agg #[.int .i64 y0, .int .i64 y1])).run Tryd.prog w = .ok (decide (x0 = y0 ∧ x1 = y1)) w := by
  rw [run_equalIn_struct w 9999 37 _ _ (by kernel_rfl) stoodE_port]
  by_cases h0 : x0 = y0 <;> by_cases h1 : x1 = y1 <;> simp [Op.eqFields, go_sem, Tryd.underlying37, h0, h1]
theorem eqQ_sigI (x0 x1 y0 y1 : Int) (w : World) : (Op.equalIn 10000 51 (.agg #[.int .i64 x0, .int .i64 x1]) (.agg #[.int .i64 y0, .int .i64 y1])).run Tryd.prog w = .ok (decide (x0 = y0 ∧ x1 = y1)) w := by
  have h := eqQ_signal ⟨x0, x1⟩ ⟨y0, y1⟩ w
  simp only [Prt.mk.injEq] at h
  exact h
theorem eqQ_flkI (x0 x1 x2 x3 y0 y1 y2 y3 : Int) (w : World) : (Op.equalIn 10000 53 (.agg #[.int .i64 x0, .int .i64 x1, .int .i64 x2, .int .i64 x3]) (.agg #[.int .i64 y0, .int .i64 y1, .int .i64 y2, .int .i64 y3])).run Tryd.prog w = .ok (decide (x0 = y0 ∧ x1 = y1 ∧ x2 = y2 ∧ x3 = y3)) w := by
  have h := eqQ_flank ⟨x0, x1, x2, x3⟩ ⟨y0, y1, y2, y3⟩ w
  simp only [Flk.mk.injEq] at h
  exact h
theorem run_store_fn {P : Program} {w : World} {a : Addr} {m : Mode} (f : Fn) (x y : Array Value) : (store a (.func f x y) m).run P w = stored P w a (.func f x y) m := run_store P w a _ m rfl
attribute [local go_sem] run_store_fn
attribute [local go_sem ↓ high] eqQ_portI eqQ_sigI eqQ_flkI

def sigP (L : Lay) (i k : Nat) : Bool := decide (L.sigs[i]? = L.sigs[k]?)
def exQ (L : Lay) (i k : Nat) : Bool := decide ((L.exits[i]?).map exP = (L.exits[k]?).map exP)
def bareF (f : Flk) : Flk := ⟨f.s, f.way, f.pt, 0⟩
def flQ (L : Lay) (i k : Nat) : Bool := decide ((L.flanks[i]?).map bareF = (L.flanks[k]?).map bareF)

set_option maxRecDepth 100000 in
set_option maxHeartbeats 4000000 in
theorem same2_any (L : Lay) (p : Where) (g i k : Nat) (w : World) (hL : LayAt w p L) (hB : Box w g L p) (hi : i < L.sigs.length) (hk : k < L.sigs.length) :
    Calls Tryd.prog 58 #[.int .i64 (i : Nat), .int .i64 (k : Nat), .pointer (some ⟨g, 0, none⟩)] w fun e w' => e = .returned (.bool (sigP L i k)) ∧ Below w.heap.size w w' := by
  obtain ⟨b, off, e0, hrow⟩ := hL.sigs.get hi
  obtain ⟨x, hx⟩ : ∃ x, L.sigs[i]? = some x := ⟨_, List.getElem?_eq_getElem hi⟩
  obtain ⟨y, hy⟩ : ∃ y, L.sigs[k]? = some y := ⟨_, List.getElem?_eq_getElem hk⟩
  have hq : sigP L i k = decide (x.s = y.s ∧ x.p = y.p) := by
    unfold sigP
    rw [hx, hy]
    obtain ⟨xs, xp⟩ := x
    obtain ⟨ys, yp⟩ := y
    simp
  rw [hq]
  have x0 : w.cell? ⟨b, off + i * 2, none⟩ = some (.int .i64 x.s) := hrow.2 i x hx 0 _ rfl
  have x1 : w.cell? ⟨b, off + i * 2 + 1, none⟩ = some (.int .i64 x.p) := hrow.2 i x hx 1 _ rfl
  have y0 : w.cell? ⟨b, off + k * 2, none⟩ = some (.int .i64 y.s) := hrow.2 k y hy 0 _ rfl
  have y1 : w.cell? ⟨b, off + k * 2 + 1, none⟩ = some (.int .i64 y.p) := hrow.2 k y hy 1 _ rfl
  have c1 : w.cell? ⟨g, 1, none⟩ = some (.slice (some ⟨b, off, none⟩) L.sigs.length p.c1) := (hB.2 1 _ rfl).trans (by rw [e0])
  generalize x.s = xs at x0 ⊢
  generalize x.p = xp at x1 ⊢
  generalize y.s = ys at y0 ⊢
  generalize y.p = yp at y1 ⊢
  have m1 : L.sigs.length ≤ 9223372036854775807 := Nat.le_trans hL.l1.1 hL.l1.2
  generalize L.sigs.length = n at hi hk c1 m1
  clear hrow hx hy hq e0 hL hB
  go_enter Tryd.func58, Tryd.ntmps58
  go_wp2
  go_region
  go_wp2
  go_ret
  exact ⟨ret_bool (by simp), (Below.refl _ _).drew⟩

set_option maxRecDepth 100000 in
set_option maxHeartbeats 4000000 in
theorem same3_any (L : Lay) (p : Where) (g i k : Nat) (w : World) (hL : LayAt w p L) (hB : Box w g L p) (hi : i < L.exits.length) (hk : k < L.exits.length) :
    Calls Tryd.prog 60 #[.int .i64 (i : Nat), .int .i64 (k : Nat), .pointer (some ⟨g, 0, none⟩)] w fun e w' => e = .returned (.bool (exQ L i k)) ∧ Below w.heap.size w w' := by
  obtain ⟨es, hes, hAt, hov⟩ := hL.exits
  have hlen : es.length = L.exits.length := by rw [← hes, List.length_map]
  obtain ⟨b, off, e0, hrow⟩ := hAt.get (j := i) (by omega)
  obtain ⟨x, hx⟩ : ∃ x, es[i]? = some x := ⟨es[i]'(by omega), List.getElem?_eq_getElem (by omega)⟩
  obtain ⟨y, hy⟩ : ∃ y, es[k]? = some y := ⟨es[k]'(by omega), List.getElem?_eq_getElem (by omega)⟩
  have hxe : L.exits[i]? = some x.1 := by rw [← hes, List.getElem?_map, hx]; rfl
  have hye : L.exits[k]? = some y.1 := by rw [← hes, List.getElem?_map, hy]; rfl
  have hq : exQ L i k = decide (x.1.s = y.1.s ∧ x.1.p = y.1.p) := by
    unfold exQ
    rw [hxe, hye]
    simp [exP]
  rw [hq]
  have x0 : w.cell? ⟨b, off + i * 3, none⟩ = some (.int .i64 x.1.s) := hrow.2 i x hx 0 _ rfl
  have x1 : w.cell? ⟨b, off + i * 3 + 1, none⟩ = some (.int .i64 x.1.p) := hrow.2 i x hx 1 _ rfl
  have y0 : w.cell? ⟨b, off + k * 3, none⟩ = some (.int .i64 y.1.s) := hrow.2 k y hy 0 _ rfl
  have y1 : w.cell? ⟨b, off + k * 3 + 1, none⟩ = some (.int .i64 y.1.p) := hrow.2 k y hy 1 _ rfl
  have c1 : w.cell? ⟨g, 2, none⟩ = some (.slice (some ⟨b, off, none⟩) L.exits.length p.c2) := (hB.2 2 _ rfl).trans (by rw [e0])
  generalize x.1.s = xs at x0 ⊢
  generalize x.1.p = xp at x1 ⊢
  generalize y.1.s = ys at y0 ⊢
  generalize y.1.p = yp at y1 ⊢
  have m1 : L.exits.length ≤ 9223372036854775807 := Nat.le_trans hL.l2.1 hL.l2.2
  clear hrow hx hy hq e0 hB hes hAt hov hlen hxe hye hL
  generalize L.exits.length = n at hi hk c1 m1
  go_enter Tryd.func60, Tryd.ntmps60
  go_wp2
  go_region
  go_wp2
  go_ret
  exact ⟨ret_bool (by simp), (Below.refl _ _).drew⟩

set_option maxRecDepth 100000 in
theorem bare_any (s y t q : Int) (w : World) : Calls Tryd.prog 63 #[.agg #[.int .i64 s, .int .i64 y, .int .i64 t, .int .i64 q]] w fun e w' => e = .returned (.agg #[.int .i64 s, .int .i64 y, .int .i64 t, .int .i64 0]) ∧ Below w.heap.size w w' := by
  go_enter Tryd.func63, Tryd.ntmps63
  go_wp2
  refine bodyPost_ret (v := .agg #[.int .i64 s, .int .i64 y, .int .i64 t, .int .i64 0]) (by simp [results, Tryd.results63, go_sem]) rfl ⟨rfl, ?_⟩
  repeat refine Below.setCell ?_ (by dsimp only; omega) _
  exact bchain bself bself

set_option maxRecDepth 100000 in
set_option maxHeartbeats 4000000 in
theorem same5_any (L : Lay) (p : Where) (g h i k : Nat) (w : World) (hL : LayAt w p L) (hB : Box w g L p) (hh : w.cell? ⟨h, 0, none⟩ = some (.func (.func 63) #[] #[])) (hi : i < L.flanks.length) (hk : k < L.flanks.length) :
    Calls Tryd.prog 64 #[.int .i64 (i : Nat), .int .i64 (k : Nat), .pointer (some ⟨h, 0, none⟩), .pointer (some ⟨g, 0, none⟩)] w fun e w' => e = .returned (.bool (flQ L i k)) ∧ Below w.heap.size w w' := by
  obtain ⟨b, off, e0, hrow⟩ := hL.flanks.get hi
  obtain ⟨x, hx⟩ : ∃ x, L.flanks[i]? = some x := ⟨_, List.getElem?_eq_getElem hi⟩
  obtain ⟨y, hy⟩ : ∃ y, L.flanks[k]? = some y := ⟨_, List.getElem?_eq_getElem hk⟩
  have hq : flQ L i k = decide (x.s = y.s ∧ x.way = y.way ∧ x.pt = y.pt ∧ (0 : Int) = 0) := by
    unfold flQ
    rw [hx, hy]
    simp [bareF]
  rw [hq]
  have x0 : w.cell? ⟨b, off + i * 4, none⟩ = some (.int .i64 x.s) := hrow.2 i x hx 0 _ rfl
  have x1 : w.cell? ⟨b, off + i * 4 + 1, none⟩ = some (.int .i64 x.way) := hrow.2 i x hx 1 _ rfl
  have x2 : w.cell? ⟨b, off + i * 4 + 2, none⟩ = some (.int .i64 x.pt) := hrow.2 i x hx 2 _ rfl
  have x3 : w.cell? ⟨b, off + i * 4 + 3, none⟩ = some (.int .i64 x.pos) := hrow.2 i x hx 3 _ rfl
  have y0 : w.cell? ⟨b, off + k * 4, none⟩ = some (.int .i64 y.s) := hrow.2 k y hy 0 _ rfl
  have y1 : w.cell? ⟨b, off + k * 4 + 1, none⟩ = some (.int .i64 y.way) := hrow.2 k y hy 1 _ rfl
  have y2 : w.cell? ⟨b, off + k * 4 + 2, none⟩ = some (.int .i64 y.pt) := hrow.2 k y hy 2 _ rfl
  have y3 : w.cell? ⟨b, off + k * 4 + 3, none⟩ = some (.int .i64 y.pos) := hrow.2 k y hy 3 _ rfl
  have c1 : w.cell? ⟨g, 3, none⟩ = some (.slice (some ⟨b, off, none⟩) L.flanks.length p.c3) := (hB.2 3 _ rfl).trans (by rw [e0])
  have lh : h < w.heap.size := World.block_lt_of_cell? _ _ hh
  have lg := hB.1
  have lb := hrow.1
  have m1 : L.flanks.length ≤ 9223372036854775807 := Nat.le_trans hL.l3.1 hL.l3.2
  clear hrow hx hy hq e0 hL hB
  generalize L.flanks.length = n at hi hk c1 m1
  obtain ⟨xs, xw, xt, xq⟩ := x
  obtain ⟨ys, yw, yt, yq⟩ := y
  dsimp only at x0 x1 x2 x3 y0 y1 y2 y3 ⊢
  go_enter Tryd.func64, Tryd.ntmps64
  go_wp2_with fail
  refine wp_region_ext (by kernel_rfl) (by kernel_rfl) fun hx => ?_
  repeat (go_big_quiet_step (first | (go_at_call 63; exact Calls.ext (bare_any xs xw xt xq _)) | (go_at_call 63; exact Calls.ext (bare_any ys yw yt yq _))))
  refine wpQuiet_nil ?_
  intro w5 b5
  go_wp2
  go_ret
  exact ⟨ret_bool (by simp), b5⟩

set_option maxRecDepth 100000 in
set_option maxHeartbeats 4000000 in
theorem rule2_any (L : Lay) (p : Where) (g : Nat) (w : World) (hL : LayAt w p L) (hB : Box w g L p) :
    Calls Tryd.prog 55 #[.pointer (some ⟨g, 0, none⟩)] w fun e w' => e = .returned (.int .i64 (firstDup (sigP L) L.sigs.length)) ∧ Below w.heap.size w w' := by
  have c1 := hB.2 1 _ rfl
  have lg := hB.1
  have m1 : L.sigs.length ≤ 9223372036854775807 := Nat.le_trans hL.l1.1 hL.l1.2
  have HL := Lib.hid hL
  have HB := Lib.hid hB
  clear hL hB
  go_enter Tryd.func55, Tryd.ntmps55
  go_wp2_with fail
  (with_reducible refine (twice_fn _ _ _ _).mono ?_)
  rintro e w1 ⟨rfl, b1, l1, n1, s1⟩
  have hf : ∀ X i k, Kept w1 X → i < k → k < L.sigs.length → Calls Tryd.prog 58 (#[.int .i64 (i : Nat), .int .i64 (k : Nat)] ++ #[.pointer (some ⟨g, 0, none⟩)]) X fun e w' => e = .returned (.bool (sigP L i k)) ∧ Below X.heap.size X w' := fun X i k hX hik hk => by
    have hk1 := (Kept.of_below b1).trans hX
    simpa using same2_any L p g i k X (HL.out.kept hk1) (HB.out.kept hk1) (by omega) hk
  have hfst := first_any _ _ _ (sigP L) _ _ (enters_of Tryd.func58 (by kernel_rfl) rfl) w1 m1 n1 s1 hf
  try simp only [World.size_alloc] at hfst
  have HF := Lib.hid hfst
  have HB1 := Lib.hid b1
  clear hf hfst b1 n1 s1 l1
  go_wp2_with fail
  (with_reducible refine HF.out.mono ?_)
  rintro e w2 ⟨rfl, b2⟩
  go_wp2
  go_ret
  exact ⟨rfl, bchain HB1.out b2⟩

set_option maxRecDepth 100000 in
set_option maxHeartbeats 4000000 in
theorem rule3_any (L : Lay) (p : Where) (g : Nat) (w : World) (hL : LayAt w p L) (hB : Box w g L p) :
    Calls Tryd.prog 59 #[.pointer (some ⟨g, 0, none⟩)] w fun e w' => e = .returned (.int .i64 (firstDup (exQ L) L.exits.length)) ∧ Below w.heap.size w w' := by
  have c1 := hB.2 2 _ rfl
  have lg := hB.1
  have m1 : L.exits.length ≤ 9223372036854775807 := Nat.le_trans hL.l2.1 hL.l2.2
  have HL := Lib.hid hL
  have HB := Lib.hid hB
  clear hL hB
  go_enter Tryd.func59, Tryd.ntmps59
  go_wp2_with fail
  (with_reducible refine (twice_fn _ _ _ _).mono ?_)
  rintro e w1 ⟨rfl, b1, l1, n1, s1⟩
  have hf : ∀ X i k, Kept w1 X → i < k → k < L.exits.length → Calls Tryd.prog 60 (#[.int .i64 (i : Nat), .int .i64 (k : Nat)] ++ #[.pointer (some ⟨g, 0, none⟩)]) X fun e w' => e = .returned (.bool (exQ L i k)) ∧ Below X.heap.size X w' := fun X i k hX hik hk => by
    have hk1 := (Kept.of_below b1).trans hX
    simpa using same3_any L p g i k X (HL.out.kept hk1) (HB.out.kept hk1) (by omega) hk
  have hfst := first_any _ _ _ (exQ L) _ _ (enters_of Tryd.func60 (by kernel_rfl) rfl) w1 m1 n1 s1 hf
  try simp only [World.size_alloc] at hfst
  have HF := Lib.hid hfst
  have HB1 := Lib.hid b1
  clear hf hfst b1 n1 s1 l1
  go_wp2_with fail
  (with_reducible refine HF.out.mono ?_)
  rintro e w2 ⟨rfl, b2⟩
  go_wp2
  go_ret
  exact ⟨rfl, bchain HB1.out b2⟩

set_option maxRecDepth 100000 in
set_option maxHeartbeats 4000000 in
theorem rule5_any (L : Lay) (p : Where) (g : Nat) (w : World) (hL : LayAt w p L) (hB : Box w g L p) :
    Calls Tryd.prog 62 #[.pointer (some ⟨g, 0, none⟩)] w fun e w' => e = .returned (.int .i64 (firstDup (flQ L) L.flanks.length)) ∧ Below w.heap.size w w' := by
  have c1 := hB.2 3 _ rfl
  have lg := hB.1
  have m1 : L.flanks.length ≤ 9223372036854775807 := Nat.le_trans hL.l3.1 hL.l3.2
  have HL := Lib.hid hL
  have HB := Lib.hid hB
  clear hL hB
  go_enter Tryd.func62, Tryd.ntmps62
  go_wp2_with fail
  (with_reducible refine (twice_fn _ _ _ _).mono ?_)
  rintro e w1 ⟨rfl, b1, l1, n1, s1⟩
  have hf : ∀ X i k, Kept w1 X → i < k → k < L.flanks.length → Calls Tryd.prog 64 (#[.int .i64 (i : Nat), .int .i64 (k : Nat)] ++ #[.pointer (some ⟨w.heap.size, 0, none⟩), .pointer (some ⟨g, 0, none⟩)]) X fun e w' => e = .returned (.bool (flQ L i k)) ∧ Below X.heap.size X w' := fun X i k hX hik hk => by
    have hk1 := (Kept.of_below (bnew b1)).trans hX
    simpa using same5_any L p g w.heap.size i k X (HL.out.kept hk1) (HB.out.kept hk1) (hX.cell _ _ _ ((b1.cell (p := ⟨w.heap.size, 0, none⟩) (by simp)).trans (by simp [go_sem]))) (by omega) hk
  have hfst := first_any _ _ _ (flQ L) _ _ (enters_of Tryd.func64 (by kernel_rfl) rfl) w1 m1 n1 s1 hf
  try simp only [World.size_alloc] at hfst
  have HF := Lib.hid hfst
  have HB1 := Lib.hid (bnew b1)
  clear hf hfst b1 n1 s1 l1
  go_wp2_with fail
  (with_reducible refine HF.out.mono ?_)
  rintro e w2 ⟨rfl, b2⟩
  go_wp2
  go_ret
  exact ⟨rfl, bchain HB1.out b2⟩
end Go.Proofs.YtmnkgnoljllnnaaDoor
