/-
  The walk of PlanBack.
-/
import Derived.Test.YtpnnbihofoomeaaDoorM8

namespace Go.Proofs.YtpnnbihofoomeaaDoor
open Go.RowKit Go.Shelf
attribute [local go_sem] run_buildNone

theorem at_take {α : Type} {W : World} {k : Nat} {enc : α → List Value} {A : Option Addr} {xs : List α} (h : At W k enc A xs) (m : Nat) : At W k enc A (xs.take m) := by
  rcases h with rfl | ⟨b, off, e, h⟩
  · exact .inl (by simp)
  · refine .inr ⟨b, off, e, h.1, fun j x hj i v hv => h.2 j x ?_ i v hv⟩
    by_cases hm : j < m
    · rwa [List.getElem?_take_of_lt hm] at hj
    · rw [List.getElem?_eq_none (by rw [List.length_take]; omega)] at hj
      cases hj

set_option maxRecDepth 100000 in
set_option maxHeartbeats 32000000 in
theorem planBack_walk (L : Lay) (P : Where) (z : Int) (w : World) (hL : LayAt w P L) (hz : (Lit.int .u8 z).wf = true) (K : Kinds w) :
    Calls Tryd.prog 4 #[L.val P, .int .u8 z] w fun e w' => e = .returned (.bool true) ∧ Below w.heap.size w w' := by
  have hz8 := wf_u8 hz
  obtain ⟨y, rfl⟩ := Int.eq_ofNat_of_zero_le hz8.1
  have hy : y < 256 := by omega
  have HG := Lib.hid (fun w1 (b : Below w.heap.size w w1) => rGreat_of L P w1 (hL.below b))
  have HPU := Lib.hid (fun w1 (b : Below w.heap.size w w1) => put_any L P w1 (hL.below b) (K.below b))
  have HRR := Lib.hid (fun w1 (b : Below w.heap.size w w1) => rRight_any L P w1 (hL.below b))
  have HSZ := Lib.hid (fun w1 (b : Below w.heap.size w w1) => size_any L P w1 (hL.below b) (K.below b))
  have HSM := Lib.hid (fun (q : Where) w1 (b : Below w.heap.size w w1) (hM : LayAt w1 q L) => rSame_any L L q P w1 hM (hL.below b))
  have HW := Lib.hid (fun w1 (b : Below w.heap.size w w1) => wakes8_any w1 (K.below b))
  have HX := Lib.hid (BoxL.make (W := w) (L := L) (p := P) (n := w.heap.size) 29 rfl)
  have HK := Lib.hid (fun W (h : Below w.heap.size w W) => K.below h)
  clear hL K hz hz8
  obtain ⟨a0, a1, a2, a3, p0, p1, p2, p3⟩ := P
  unfold Lay.val at *
  go_enter Tryd.func4, Tryd.ntmps4
  go_wp2_with fail
  (with_reducible refine (HG.out _ bself).mono ?_)
  rintro e w1 ⟨b, rfl, hfew, b1⟩
  have H1 := Lib.hid (⟨bchain bself b1, HX.out.below b1⟩ : Below w.heap.size w w1 ∧ _)
  obtain ⟨x0, x1, x2, x3, x4, x5, x6, x7, x8, x9, x10⟩ := H1.out.2.cells
  dsimp only at x0 x1 x2 x3
  have xl := H1.out.2.1
  clear hfew b1 HX HG
  cases b with
  | true =>
    go_wp2_with fail
    (with_reducible refine (HW.out _ H1.out.1).mono ?_)
    rintro e w9 ⟨rfl, b9⟩
    have HB9 := Lib.hid (bchain (H1.out.1) b9)
    clear b9
    go_wp2
    go_ret
    exact ⟨rfl, HB9.out⟩
  | false =>
    go_wp2_with fail
    (with_reducible refine (HPU.out _ H1.out.1).mono ?_)
    intro e w2 hp
    obtain ⟨hc, b2⟩ := hp
    have H2 := Lib.hid (⟨bchain H1.out.1 b2, H1.out.2.below b2⟩ : Below w.heap.size w w2 ∧ _)
    clear b2 x0 x1 x2 x3 x4 x5 x6 x7 x8 x9 x10 xl H1 HPU
    obtain ⟨x0, x1, x2, x3, x4, x5, x6, x7, x8, x9, x10⟩ := H2.out.2.cells
    dsimp only at x0 x1 x2 x3
    have xl := H2.out.2.1
    rcases hc with ⟨hr, rfl⟩ | ⟨hr, v, rfl, hv⟩
    · go_wp2_with fail
      (with_reducible refine (HRR.out _ H2.out.1).mono ?_)
      rintro e w3 ⟨rfl, b3⟩
      have HB3 := Lib.hid (bchain H2.out.1 b3)
      rw [hr]
      clear b3 hr
      go_wp2_with fail
      (with_reducible refine (HW.out _ HB3.out).mono ?_)
      rintro e w9 ⟨rfl, b9⟩
      have HB9 := Lib.hid (bchain (HB3.out) b9)
      clear b9
      go_wp2
      go_ret
      exact ⟨rfl, HB9.out⟩
    have hwid := (right_fields hr).2
    have hlen := bytes_length L
    obtain ⟨k, hk⟩ : ∃ k, (bytesL L).length = k + 1 := ⟨(bytesL L).length - 1, by omega⟩
    obtain ⟨A, c, rfl⟩ := ownsV hv
    obtain ⟨hA, hAc⟩ := sl_get (at_of_row (k := 1) (xs := bytesL L) (fun _ => rfl) (by decide) hv)
    rw [hk]
    have hk11 : 10 ≤ k := by omega
    have hk200 : k < 200 := by omega
    have hkc : k + 1 ≤ c := by omega
    have HA := Lib.hid (⟨hA, hk, hr⟩ : At w2 1 bEnc A (bytesL L) ∧ _ ∧ _)
    clear hwid hlen hk hv hA hAc hr
    go_wp2_with fail
    (with_reducible refine (HRR.out _ H2.out.1).mono ?_)
    rintro e w3 ⟨rfl, b3⟩
    rw [HA.out.2.2]
    have H3 := Lib.hid (⟨bchain H2.out.1 b3, H2.out.2.below b3, HA.out.1.below b3⟩ : Below w.heap.size w w3 ∧ _ ∧ At w3 1 bEnc A (bytesL L))
    clear b3 x0 x1 x2 x3 x4 x5 x6 x7 x8 x9 x10 xl H2 HRR
    have HT := Lib.hid (take_is (L := L) (x := 0) (take_some (read_put HA.out.2.2) ⟨HA.out.2.2, rfl⟩) A (k + 1) c w3 HA.out.2.1.symm H3.out.2.2 (by rw [HA.out.2.1]; omega) (pack_lt _) (HK.out _ H3.out.1))
    go_wp2_with fail
    (with_reducible refine HT.out.mono ?_)
    rintro e w4 ⟨p, es, rfl, ho, b4⟩
    obtain ⟨X, hX⟩ : ∃ X, X = w4.alloc (.cells (L.cells p).toArray 29) := ⟨_, rfl⟩
    obtain ⟨g, hg⟩ : ∃ g, g = w4.heap.size := ⟨_, rfl⟩
    have bX : Below w3.heap.size w3 X := by rw [hX]; exact bchain b4 bself
    have xX : BoxL X g L p := by rw [hX]; exact BoxL.make _ hg
    have lX : LayAt X p L := by rw [hX]; exact ho.lay.below bself
    have H4 := Lib.hid (⟨bchain H3.out.1 bX, H3.out.2.1.below bX, xX, lX, H3.out.2.2.below bX⟩ : Below w.heap.size w X ∧ _ ∧ BoxL X g L p ∧ LayAt X p L ∧ At X 1 bEnc A (bytesL L))
    obtain ⟨x0, x1, x2, x3, x4, x5, x6, x7, x8, x9, x10⟩ := (H3.out.2.1.below b4).cells
    obtain ⟨y0, y1, y2, y3, y4, y5, y6, y7, y8, y9, y10⟩ := xX.cells
    dsimp only at x0 x1 x2 x3
    have xl := (H3.out.2.1.below b4).1
    have yl := xX.1
    have hsm := HSM.out p X H4.out.1 lX
    rw [(same_eq_lay L L).2 rfl] at hsm
    replace HSM := Lib.hid hsm
    clear bX xX lX ho b4 HT H3 hsm
    go_wp2_with fail
    unfold Lay.cells at hX
    rw [← hX]
    rw [← hg]
    clear hX hg x0 x1 x2 x3 x4 x5 x6 x7 x8 x9 x10 xl y0 y1 y2 y3 y4 y5 y6 y7 y8 y9 y10 yl
    (with_reducible refine HSM.out.mono ?_)
    rintro e w5 ⟨rfl, b5⟩
    have H5 := Lib.hid (⟨bchain H4.out.1 b5, H4.out.2.1.below b5, H4.out.2.2.2.2.below b5⟩ : Below w.heap.size w w5 ∧ _ ∧ At w5 1 bEnc A (bytesL L))
    clear b5 H4 HSM
    have e1 : decide (((k + 1 : Nat) : Int) < 11) = false := decide_eq_false (by omega)
    have e1' : ¬ ((k : Int) + 1 < 11) := by omega
    have e2 : decide (((k + 1 : Nat) : Int) > 200) = false := decide_eq_false (by omega)
    have e2' : ¬ (200 < (k : Int) + 1) := by omega
    go_wp2_with fail
    (with_reducible refine (most_any _).mono ?_)
    rintro e w6 ⟨rfl, b6⟩
    have H6 := Lib.hid (⟨bchain H5.out.1 b6, H5.out.2.1.below b6, H5.out.2.2.below b6⟩ : Below w.heap.size w w6 ∧ _ ∧ At w6 1 bEnc A (bytesL L))
    clear b6 H5
    obtain ⟨x0, x1, x2, x3, x4, x5, x6, x7, x8, x9, x10⟩ := H6.out.2.1.cells
    dsimp only at x0 x1 x2 x3
    have xl := H6.out.2.1.1
    have hsz := HSZ.out w6 H6.out.1
    rw [show sizeL L = k + 1 by unfold sizeL; rw [if_pos HA.out.2.2, HA.out.2.1]] at hsz
    replace HSZ := Lib.hid hsz
    clear hsz
    go_wp2_with fail
    (with_reducible refine HSZ.out.mono ?_)
    rintro e w7 ⟨rfl, b7⟩
    have H7 := Lib.hid (⟨bchain H6.out.1 b7, H6.out.2.2.below b7⟩ : Below w.heap.size w w7 ∧ At w7 1 bEnc A (bytesL L))
    clear b7 H6 HSZ x0 x1 x2 x3 x4 x5 x6 x7 x8 x9 x10 xl e1 e1' e2 e2'
    have hsub : ((k + 1 : Nat) : Int) - 1 = (k : Int) := by omega
    have hsub' : (k : Int) + 1 - 1 = (k : Int) := by omega
    have hkc' : k ≤ c := by omega
    have hkw : IntKind.wrap .i64 (k : Int) = (k : Int) := by rw [IntKind.wrap_i64]; omega
    go_wp2_with fail
    have hless : takeL ((bytesL L).take k) = (noL, 40) := by
      have h := read_less HA.out.2.2
      rw [HA.out.2.1, Nat.add_sub_cancel] at h
      exact take_none h
    have HT := Lib.hid (take_is hless A k c w7 (by rw [List.length_take, HA.out.2.1]; omega) (at_take H7.out.2 k) (by rw [List.length_take]; omega) (fun b hb => pack_lt _ b (List.mem_of_mem_take hb)) (HK.out _ H7.out.1))
    clear hless hsub hsub' hkc' hkw
    (with_reducible refine HT.out.mono ?_)
    rintro e w8 ⟨q, es8, rfl, ho8, b8⟩
    obtain ⟨Y, hY⟩ : ∃ Y, Y = w8.alloc (.cells (noL.cells q).toArray 29) := ⟨_, rfl⟩
    obtain ⟨g9, hg9⟩ : ∃ g9, g9 = w8.heap.size := ⟨_, rfl⟩
    have bY : Below w7.heap.size w7 Y := by rw [hY]; exact bchain b8 bself
    have xY : BoxL Y g9 noL q := by rw [hY]; exact BoxL.make _ hg9
    have hYs : Y.heap.size = g9 + 1 := by rw [hY, hg9]; simp
    have H8 := Lib.hid (⟨bchain H7.out.1 bY, H7.out.2.below bY, xY⟩ : Below w.heap.size w Y ∧ At Y 1 bEnc A (bytesL L) ∧ BoxL Y g9 noL q)
    clear bY xY ho8 b8 HT H7
    obtain ⟨i0, z0, hi, hz1, hs1, hs2, hs3⟩ := info_u8
    have HI := Lib.hid (⟨hi, hz1, hs1, hs2, hs3⟩ : _ ∧ _ ∧ _ ∧ _ ∧ _)
    clear hi hz1 hs1 hs2 hs3
    go_wp2_with (at_builtin; refine Hid.out ?_)
    refine Lib.hid ?_
    unfold Lay.cells at hY
    rw [← hY]
    rw [← hg9]
    clear hY hg9
    rw [← hYs]
    refine wpList_append_at (enc := bEnc) rfl _ _ _ rfl Y.heap.size 5 i0 z0 1 i0.bytes Tryd.underlying30 HI.out.1 HI.out.2.1 HI.out.2.2.1 rfl HI.out.2.2.2.1 (by decide) (.slice (some ⟨Y.heap.size, 0, none⟩) 0 0) 0 [] (by simp [go_sem]) (World.ownsRow_lit Y #[] 0 (Nat.le_refl _) (by unfold maxLen; omega) rfl) A (k + 1) c (bytesL L) HA.out.2.1.symm (by simp [go_sem]) (H8.out.2.1.below bself) (fun _ => rfl) u8_one (by unfold maxLen; omega) ?_ (by simp) ?_
    · have h2 := Nat.mul_le_mul (show 0 + (k + 1) ≤ 1000 by omega) HI.out.2.2.2.2
      omega
    intro v' V hr hgv
    have bV : Below Y.heap.size Y V := bgrown (World.ownsRow_lit (base := Y.heap.size) (size := 1) Y #[] 0 (Nat.le_refl _) (by unfold maxLen; omega) rfl) hgv bself (by simp)
    rw [Nat.zero_add] at hr
    obtain ⟨A', d', rfl⟩ := ownsV hr
    have H9 := Lib.hid (⟨hr, bV, bV.size⟩ : V.ownsRow Y.heap.size 5 1 (.slice A' (k + 1) d') (k + 1) ([] ++ (bytesL L).flatMap bEnc) ∧ Below Y.heap.size Y V ∧ Y.heap.size ≤ V.heap.size)
    clear hr hgv bV
    go_wp2_with (at_builtin; refine Hid.out ?_)
    refine Lib.hid ?_
    refine wpList_append_at (enc := bEnc) rfl _ _ _ rfl Y.heap.size 5 i0 z0 1 i0.bytes Tryd.underlying30 HI.out.1 HI.out.2.1 HI.out.2.2.1 rfl HI.out.2.2.2.1 (by decide) (.slice A' (k + 1) d') (k + 1) ([] ++ (bytesL L).flatMap bEnc) (by simp [go_sem]) (owns_below H9.out.1 bself) (some ⟨V.heap.size, 0, none⟩) 1 1 [y] rfl (by simp [go_sem]) (at_one rfl) (fun _ => rfl) u8_one (by unfold maxLen; omega) ?_ (by have := H9.out.2.2; simp; omega) ?_
    · have h2 := Nat.mul_le_mul (show k + 1 + 1 ≤ 1000 by omega) HI.out.2.2.2.2
      omega
    intro v' U hr hgv
    have bU : Below Y.heap.size V U := bgrown (owns_below H9.out.1 bself) hgv (bself.mono H9.out.2.2) (by have := H9.out.2.2; simp; omega)
    obtain ⟨A2, d2, rfl⟩ := ownsV hr
    have hlm : (bytesL L ++ [y]).length = k + 1 + 1 := by rw [List.length_append, HA.out.2.1]; rfl
    have hU : At U 1 bEnc A2 (bytesL L ++ [y]) := (sl_get (at_of_row (k := 1) (xs := bytesL L ++ [y]) (fun _ => rfl) (by decide) (show U.ownsRow Y.heap.size 5 1 (.slice A2 (bytesL L ++ [y]).length d2) (bytesL L ++ [y]).length ((bytesL L ++ [y]).flatMap bEnc) by rw [hlm, List.flatMap_append, ← List.nil_append ((bytesL L).flatMap bEnc)]; exact hr))).1
    have bYU : Below Y.heap.size Y U := H9.out.2.1.trans bU
    have H10 := Lib.hid (⟨bchain H8.out.1 bYU, H8.out.2.2.below bYU, hU, hlm⟩ : Below w.heap.size w U ∧ BoxL U g9 noL q ∧ At U 1 bEnc A2 (bytesL L ++ [y]) ∧ _)
    clear hr hgv bU hU bYU H9 H8 hYs
    have hmore : takeL (bytesL L ++ [y]) = (noL, 41) := by
      refine take_form (read_more HA.out.2.2 [y]) fun h => ?_
      have := congrArg List.length h.2
      rw [hlm, HA.out.2.1] at this
      omega
    clear hlm
    have HT := Lib.hid (take_is hmore A2 (k + 1 + 1) d2 U H10.out.2.2.2.symm H10.out.2.2.1 (by rw [H10.out.2.2.2]; omega) (fun b hb => by
      rcases List.mem_append.1 hb with h | h
      · exact pack_lt _ b h
      · rw [List.mem_singleton.1 h]; exact hy) (HK.out _ H10.out.1))
    clear hmore
    go_wp2_with fail
    (with_reducible refine HT.out.mono ?_)
    rintro e w10 ⟨q10, es10, rfl, ho10, b10⟩
    have H11 := Lib.hid (⟨bchain (bchain H10.out.1 b10) bself, H10.out.2.1.below b10⟩ : Below w.heap.size w (w10.alloc (.cells (noL.cells q10).toArray 29)) ∧ BoxL w10 g9 noL q)
    have y0 : w10.cell? ⟨g9, 0, none⟩ = some (.slice q.a0 0 q.c0) := H11.out.2.cells.1
    have yl := H11.out.2.1
    clear ho10 b10 HT H10
    unfold Lay.cells at H11
    go_wp2_with fail
    (with_reducible refine (HW.out _ H11.out.1).mono ?_)
    rintro e w9 ⟨rfl, b9⟩
    have HB9 := Lib.hid (bchain (H11.out.1) b9)
    clear b9
    go_wp2
    go_ret
    exact ⟨rfl, HB9.out⟩
end Go.Proofs.YtpnnbihofoomeaaDoor

/-
  PlanBack: what is put is taken; with a byte fewer it is too short, with one more it is none (whatever the layout and the byte: true).
  Conditions: port.kinds and port.none (and join.end, where it is listed) start as the program's text lays them (the tied card; it ties them to the pruned copy that the seat holds).
-/
namespace Go.Proofs.YtpnnbihofoomeaaDoor
open Go.RowKit Go.WideShapes Go.ChangeShapes Go.ChangeAt Go.WideMaps Go.WideElems Go.Joins Go.Deep

set_option maxRecDepth 100000 in
theorem planBack_lifted (os : Os) (started : os.Started) (H : Type) (enc : TypeId × Value → H) :
    ReturnsInHanded {} Tryd.checked os 4 .any (fun w args => (Rows.planBackSpec.pre enc Tryd.prog Tryd.f4 [] false w args ∧ laidMetH Tryd.prog laidL w) ∧ sizedMet enc Tryd.prog Tryd.f4 (OpenSpec.ofChange Rows.planBackSpec) false w args)
      (Rows.planBackSpec.post enc Tryd.prog Tryd.f4 false true false false) := by
  refine law_lifted_laid (C := Tryd.checked) (tb := 4) ownP started (by kernel_rfl) Tryd.func4
    (ChangeSpec.witness_shaped (enc := enc) (C := Tryd.checked) (os := os) (X := fun w _ => laidMetH Tryd.prog laidL w) false (World.doorLaid Tryd.prog 400 os) #[.agg #[.slice none 0 0, .slice none 0 0, .slice none 0 0, .slice none 0 0, .int .i64 0, .int .i64 0, .int .i64 0, .int .i64 0, .int .i64 0, .int .i64 0, .int .i64 0], .int .u8 0] 8 rfl (World.shaped_of_RefB (by kernel_rfl) (by kernel_rfl)) (by kernel_rfl) (by kernel_rfl) (by kernel_rfl) (door_met os _))
    laidP (by kernel_rfl) rfl rfl Tryd.underlying4 ?_
  intro W base args ds p hval0 hA0 hlt hL
  have hval : ∀ (j : Nat) t v, Tryd.f4.params[j]? = some t → args[j]? = some v → Value.okWide Tryd.prog W .any base t v := hval0
  have hA : DataW.TrodAll enc Tryd.prog W 0 (fun _ => true) true Tryd.f4.params.toList args.toList ds p := hA0
  clear hval0 hA0
  rw [Tryd.params4] at hA hval
  obtain ⟨vs⟩ := args
  dsimp only at hA
  obtain ⟨v0, vs0, d0, ds0, p0, q0, rfl, rfl, rfl, h0, hA⟩ := trodAll_cons hA
  obtain ⟨v1, vs1, d1, ds1, p1, q1, rfl, rfl, rfl, h1, hA⟩ := trodAll_cons hA
  obtain ⟨rfl, rfl, rfl⟩ := trodAll_nil hA
  obtain ⟨L0, w0, rfl, hl0⟩ := open_layout (hval 0 29 v0 rfl rfl) h0
  obtain ⟨x1, rfl, rfl, rfl, b1⟩ := open_int Tryd.underlying5 (hval 1 5 v1 rfl rfl) h1
  exact ⟨⟨rfl, rfl, rfl⟩, planBack_walk L0 w0 x1 W hl0 b1 (kinds_of_laid hL)⟩

theorem planBack_holds : Rows.PlanBackSaid :=
  OpenClaim.holds_of_wide 4 Tryd.f4 rfl rfl rfl rfl rfl rfl rfl ⟨rfl, rfl, rfl, rfl, rfl⟩ rfl rfl rfl rfl rfl (by kernel_rfl) Tryd.func4 (by kernel_rfl)
    (of_decide_eq_true (by kernel_rfl)) (by unfold Func.isWrapper; first | (rw [if_pos (by decide +kernel)]; kernel_rfl) | (rw [if_neg (of_decide_eq_false (by kernel_rfl))]; exact ⟨rfl, rfl⟩))
    (fun os started H enc _ => planBack_lifted os started H enc)

theorem planBack_card : Rows.PlanBackCardSaid :=
  Claim7.holds_tied_plain_at .later [] [.data, .data] true (true, "479b1d365078aa6a65adb860a79fd47d98a9c035ed1b6145318c218d63b0cd9c") false
    planBack_holds (fun _ h => by cases h) (by kernel_rfl) (fun _ h => by cases h) planBack_row_tie rfl ⟨rfl, rfl⟩ (by kernel_rfl) rfl
    (fun f fn hf hfn => by
      obtain rfl : f = 4 := Option.some.inj ((show Tryd.prog.funcNamed "lockbar/lockbarlaw08.PlanBack" = some 4 by kernel_rfl).symm.trans hf) |>.symm
      obtain rfl : fn = Tryd.f4 := (Option.some.inj (Tryd.func4.symm.trans hfn)).symm
      exact ⟨by kernel_rfl, fun j t ht => by
        rw [Tryd.params4] at ht
        have hm : t ∈ [29, 5] := by simpa using Array.mem_of_getElem? ht
        have hall : ([29, 5].all fun u => !Tryd.prog.wantsStandIn u) = true := by kernel_rfl
        exact (show Tryd.prog.wantsStandIn t = false by simpa using List.all_eq_true.1 hall t hm)⟩)
    (by kernel_rfl)
#print axioms planBack_card
end Go.Proofs.YtpnnbihofoomeaaDoor
