/-
  The walk of TopoLess.
-/
import Derived.Test.YtmnkgnoljllnnaaDoorM5

namespace Go.Proofs.YtmnkgnoljllnnaaDoor
open Go.RowKit Go.Shelf

attribute [local go_sem ↓ high] max_two min_two
set_option maxRecDepth 100000 in
set_option maxHeartbeats 16000000 in
theorem topoLess_walk (L : Lay) (P : Where) (a b c : Int) (w : World) (hL : LayAt w P L) (KE : Kinds w ∧ JEnd w) :
    Calls Tryd.prog 7 #[L.val P, .int .i64 a, .int .i64 b, .int .i64 c] w fun e w' => e = .returned (.bool true) ∧ Below w.heap.size w w' := by
  obtain ⟨ka, hka, la⟩ := clamp a L.sigs.length
  obtain ⟨kb, hkb, lb⟩ := clamp b L.exits.length
  obtain ⟨kc, hkc, lc⟩ := clamp c L.flanks.length
  obtain ⟨M, hM⟩ : ∃ M, M = swap L (L.sigs.take ka) (L.exits.take kb) (L.flanks.take kc) := ⟨_, rfl⟩
  have hMA : LayAt w P M := by rw [hM]; exact hL.take ka kb kc
  have hMv : M.val P = .agg (match P with | ⟨a0, a1, a2, a3, p0, p1, p2, p3⟩ => #[.slice a0 L.secs.length p0, .slice a1 ka p1, .slice a2 kb p2, .slice a3 kc p3, .int .i64 L.t0, .int .i64 L.t1, .int .i64 L.t2, .int .i64 L.t3, .int .i64 L.t4, .int .i64 L.t5, .int .i64 L.t6]) := by
    subst hM
    obtain ⟨a0, a1, a2, a3, p0, p1, p2, p3⟩ := P
    simp [Lay.val, swap, Nat.min_eq_left la, Nat.min_eq_left lb, Nat.min_eq_left lc]
  have hTR : topoR L = true → topoR M = true := fun h => by rw [hM]; exact topo_take h
  have hG := fun w1 (h : Below w.heap.size w w1) => rGreat_of L P w1 (hL.below h)
  have h3 := fun w1 (h : Below w.heap.size w w1) => topoRight_any L P w1 (hL.below h) (KE.1.below h) (KE.2.below h)
  have h4 := fun w1 (h : Below w.heap.size w w1) => topoRight_any M P w1 (hMA.below h) (KE.1.below h) (KE.2.below h)
  have hW := fun w1 (h : Below w.heap.size w w1) => wakes9_any w1 (KE.1.below h) (KE.2.below h)
  have m1 : ka ≤ P.c1 := Nat.le_trans la hL.l1.1
  have m2 : kb ≤ P.c2 := Nat.le_trans lb hL.l2.1
  have m3 : kc ≤ P.c3 := Nat.le_trans lc hL.l3.1
  have n1 := hL.l1.2
  have n2 := hL.l2.2
  have n3 := hL.l3.2
  rw [hMv] at h4
  obtain ⟨q, hq⟩ : ∃ q, q = topoR L := ⟨_, rfl⟩
  rw [← hq] at h3 hTR
  generalize topoR M = q2 at hTR h4
  obtain ⟨a0, a1, a2, a3, p0, p1, p2, p3⟩ := P
  dsimp only at m1 m2 m3 n1 n2 n3 h4
  have m1' : (ka : Int) ≤ (p1 : Int) := by omega
  have m2' : (kb : Int) ≤ (p2 : Int) := by omega
  have m3' : (kc : Int) ≤ (p3 : Int) := by omega
  have z1 : (0 : Int) ≤ (ka : Int) := by omega
  have z2 : (0 : Int) ≤ (kb : Int) := by omega
  have z3 : (0 : Int) ≤ (kc : Int) := by omega
  unfold Lay.val at hG h3 ⊢
  have HG := Lib.hid hG
  have HT := Lib.hid (⟨h3, h4, hTR, hW⟩ : _ ∧ _ ∧ _ ∧ _)
  clear hG h3 h4 hTR hW hMA hMv hM hL KE hq
  go_enter Tryd.func7, Tryd.ntmps7
  go_wp2_with fail
  (with_reducible refine (HG.out (w.alloc (.cells #[.slice a0 L.secs.length p0, .slice a1 L.sigs.length p1, .slice a2 L.exits.length p2, .slice a3 L.flanks.length p3, .int .i64 L.t0, .int .i64 L.t1, .int .i64 L.t2, .int .i64 L.t3, .int .i64 L.t4, .int .i64 L.t5, .int .i64 L.t6] 29)) bself).mono ?_)
  rintro e w1 ⟨g, rfl, _, b1⟩
  have HB1 := Lib.hid (bnew b1)
  cases g with
  | true =>
    clear b1
    go_wp2_with fail
    (with_reducible refine (HT.out.2.2.2 _ HB1.out).mono ?_)
    rintro e w2 ⟨rfl, b2⟩
    have HB2 := Lib.hid (bchain HB1.out b2)
    clear b2
    go_wp2
    go_ret
    exact ⟨rfl, HB2.out⟩
  | false =>
    have hbx : BoxL w1 w.heap.size L ⟨a0, a1, a2, a3, p0, p1, p2, p3⟩ := (BoxL.make (L := L) (p := ⟨a0, a1, a2, a3, p0, p1, p2, p3⟩) _ rfl).below b1
    have HX1 := Lib.hid hbx
    obtain ⟨c0, c1, c2, c3, c4, c5, c6, c7, c8, c9, c10⟩ := hbx.cells
    have lg := hbx.1
    dsimp only at c0 c1 c2 c3
    clear b1 hbx
    go_wp2_with fail
    (with_reducible refine (HT.out.1 _ HB1.out).mono ?_)
    rintro e w2 ⟨rfl, b2⟩
    have hbx := HX1.out.below b2
    have HB2 := Lib.hid (bchain HB1.out b2)
    clear c0 c1 c2 c3 c4 c5 c6 c7 c8 c9 c10 lg b2
    cases q with
    | false =>
      clear hbx
      go_wp2_with fail
      (with_reducible refine (HT.out.2.2.2 _ HB2.out).mono ?_)
      rintro e w3 ⟨rfl, b3⟩
      have HB3 := Lib.hid (bchain HB2.out b3)
      clear b3
      go_wp2
      go_ret
      exact ⟨rfl, HB3.out⟩
    | true =>
      have hq2 := HT.out.2.2.1 (by trivial)
      subst hq2
      obtain ⟨c0, c1, c2, c3, c4, c5, c6, c7, c8, c9, c10⟩ := hbx.cells
      have lg := hbx.1
      dsimp only at c0 c1 c2 c3
      clear hbx
      go_wp2_with fail
      (with_reducible refine (HT.out.2.1 (w2.alloc (.cells #[.slice a0 L.secs.length p0, .slice a1 ka p1, .slice a2 kb p2, .slice a3 kc p3, .int .i64 L.t0, .int .i64 L.t1, .int .i64 L.t2, .int .i64 L.t3, .int .i64 L.t4, .int .i64 L.t5, .int .i64 L.t6] 29)) (bchain HB2.out bself)).mono ?_)
      rintro e w4 ⟨rfl, b4⟩
      have HB4 := Lib.hid (bchain HB2.out (bnew b4))
      clear b4 c0 c1 c2 c3 c4 c5 c6 c7 c8 c9 c10 lg
      go_wp2_with fail
      (with_reducible refine (HT.out.2.2.2 _ HB4.out).mono ?_)
      rintro e w5 ⟨rfl, b5⟩
      have HB5 := Lib.hid (bchain HB4.out b5)
      clear b5
      go_wp2
      go_ret
      exact ⟨rfl, HB5.out⟩
end Go.Proofs.YtmnkgnoljllnnaaDoor

/-
  TopoLess: a layout that hangs together does so without some of its signals, exits, flanks.
  Conditions: port.kinds and port.none (and join.end, where it is listed) start as the program's text lays them (the tied card; it ties them to the pruned copy that the seat holds).
-/
namespace Go.Proofs.YtmnkgnoljllnnaaDoor
open Go.RowKit Go.WideShapes Go.ChangeShapes Go.ChangeAt Go.WideMaps Go.WideElems Go.Joins Go.Deep

set_option maxRecDepth 100000 in
theorem topoLess_lifted (os : Os) (started : os.Started) (H : Type) (enc : TypeId × Value → H) :
    ReturnsInHanded {} Tryd.checked os 7 .any (fun w args => (Rows.topoLessSpec.pre enc Tryd.prog Tryd.f7 [] false w args ∧ laidMetH Tryd.prog laidL w) ∧ sizedMet enc Tryd.prog Tryd.f7 (OpenSpec.ofChange Rows.topoLessSpec) false w args)
      (Rows.topoLessSpec.post enc Tryd.prog Tryd.f7 false true false false) := by
  refine law_lifted_laid (C := Tryd.checked) (tb := 4) ownP started (by kernel_rfl) Tryd.func7
    (ChangeSpec.witness_shaped (enc := enc) (C := Tryd.checked) (os := os) (X := fun w _ => laidMetH Tryd.prog laidL w) false (World.doorLaid Tryd.prog 400 os) #[.agg #[.slice none 0 0, .slice none 0 0, .slice none 0 0, .slice none 0 0, .int .i64 0, .int .i64 0, .int .i64 0, .int .i64 0, .int .i64 0, .int .i64 0, .int .i64 0], .int .i64 0, .int .i64 0, .int .i64 0] 8 rfl (World.shaped_of_RefB (by kernel_rfl) (by kernel_rfl)) (by kernel_rfl) (by kernel_rfl) (by kernel_rfl) (door_met os _))
    laidP (by kernel_rfl) rfl rfl Tryd.underlying4 ?_
  intro W base args ds p hval0 hA0 hlt hL
  have hval : ∀ (j : Nat) t v, Tryd.f7.params[j]? = some t → args[j]? = some v → Value.okWide Tryd.prog W .any base t v := hval0
  have hA : DataW.TrodAll enc Tryd.prog W 0 (fun _ => true) true Tryd.f7.params.toList args.toList ds p := hA0
  clear hval0 hA0
  rw [Tryd.params7] at hA hval
  obtain ⟨vs⟩ := args
  dsimp only at hA
  obtain ⟨v0, vs0, d0, ds0, p0, q0, rfl, rfl, rfl, h0, hA⟩ := trodAll_cons hA
  obtain ⟨v1, vs1, d1, ds1, p1, q1, rfl, rfl, rfl, h1, hA⟩ := trodAll_cons hA
  obtain ⟨v2, vs2, d2, ds2, p2, q2, rfl, rfl, rfl, h2, hA⟩ := trodAll_cons hA
  obtain ⟨v3, vs3, d3, ds3, p3, q3, rfl, rfl, rfl, h3, hA⟩ := trodAll_cons hA
  obtain ⟨rfl, rfl, rfl⟩ := trodAll_nil hA
  obtain ⟨L0, w0, rfl, hl0⟩ := open_layout (hval 0 29 v0 rfl rfl) h0
  obtain ⟨x1, rfl, rfl, rfl, b1⟩ := open_int Tryd.underlying3 (hval 1 3 v1 rfl rfl) h1
  obtain ⟨x2, rfl, rfl, rfl, b2⟩ := open_int Tryd.underlying3 (hval 2 3 v2 rfl rfl) h2
  obtain ⟨x3, rfl, rfl, rfl, b3⟩ := open_int Tryd.underlying3 (hval 3 3 v3 rfl rfl) h3
  exact ⟨⟨rfl, rfl, rfl⟩, topoLess_walk L0 w0 x1 x2 x3 W hl0 (kinds_of_laid hL)⟩

theorem topoLess_holds : Rows.TopoLessSaid :=
  OpenClaim.holds_of_wide 7 Tryd.f7 rfl rfl rfl rfl rfl rfl rfl ⟨rfl, rfl, rfl, rfl, rfl⟩ rfl rfl rfl rfl rfl (by kernel_rfl) Tryd.func7 (by kernel_rfl)
    (of_decide_eq_true (by kernel_rfl)) (by unfold Func.isWrapper; first | (rw [if_pos (by decide +kernel)]; kernel_rfl) | (rw [if_neg (of_decide_eq_false (by kernel_rfl))]; exact ⟨rfl, rfl⟩))
    (fun os started H enc _ => topoLess_lifted os started H enc)

theorem topoLess_card : Rows.TopoLessCardSaid :=
  Claim7.holds_tied_plain_at .later [] [.data, .data, .data] true (true, "3cd35ec731902af1efb8ad1e66760989928f8fbf6ddfd2ac00e438de07536a54") false
    topoLess_holds (fun _ h => by cases h) (by kernel_rfl) (fun _ h => by cases h) topoLess_row_tie rfl ⟨rfl, rfl⟩ (by kernel_rfl) rfl
    (fun f fn hf hfn => by
      obtain rfl : f = 7 := Option.some.inj ((show Tryd.prog.funcNamed "lockbar/lockbarlaw09.TopoLess" = some 7 by kernel_rfl).symm.trans hf) |>.symm
      obtain rfl : fn = Tryd.f7 := (Option.some.inj (Tryd.func7.symm.trans hfn)).symm
      exact ⟨by kernel_rfl, fun j t ht => by
        rw [Tryd.params7] at ht
        have hm : t ∈ [29, 3, 3, 3] := by simpa using Array.mem_of_getElem? ht
        have hall : ([29, 3, 3, 3].all fun u => !Tryd.prog.wantsStandIn u) = true := by kernel_rfl
        exact (show Tryd.prog.wantsStandIn t = false by simpa using List.all_eq_true.1 hall t hm)⟩)
    (by kernel_rfl)
#print axioms topoLess_card
end Go.Proofs.YtmnkgnoljllnnaaDoor
